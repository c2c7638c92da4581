/- The texts that the statement's proof stands on, part 4: XPlJns XPlOrdM XPlOrd XPlEven XPlKnM XPlKnown. -/
import Derived.Test.YtcikcnkhcfhomaaDoorZPlanKnown3
/- PlanJoins: joins and bracketings of every order. -/
namespace Go.Proofs.YtcikcnkhcfhomaaDoor.Hand
open Go.RowKit Go.Proofs.YtcikcnkhcfhomaaDoorW.PrintWords Go.Proofs.YtcikcnkhcfhomaaDoorW.PrintMore Go.Proofs.YtcikcnkhcfhomaaDoor.Math

theorem Quiet.monoJ {f : FuncId} {args : Array Value} {w : World} {v : Value} {Q : Ending → World → Prop} (h : Quiet f args w v) (k : ∀ e w', (e = .returned v ∧ ∃ n, w' = w.drewN n) → Q e w') : Calls Tryd.prog f args w Q := Calls.mono h k
theorem lent_reads {e : Nat} {w : World} {base : Nat} {ok : Nat → Prop} {A : Option Addr} {c : Nat} {l : List Int} (h : KMInt.R e w base ok (.slice A (l.length + 1) c) (l.map some ++ [none])) : KMInt.C w A (l.length + 1) (l.map some ++ [none]) ∧ Kd.C (Kd.int .i64) w A l.length l := by
  have h1 := (Kd.R_reads' h).2.2
  have h2 : KMInt.C w A (l.length + 1) (l.map some ++ [none]) := by simpa using h1
  exact ⟨h2, lent_C (a := Kd.int .i64) h2⟩
theorem size3i : (Tryd.prog.info? 29).map (·.size) = some 3 := by
  obtain ⟨i, hi, hz⟩ := Option.map_eq_some_iff.1 info3i
  rw [hi]
  simp only [Prod.mk.injEq] at hz
  simp [hz.2.1]
theorem K3_E : K3.E = [] := rfl
set_option maxHeartbeats 4000000 in
set_option maxRecDepth 100000 in
theorem planJoins_walk {w : World} (n : Int) (hn : (Lit.int .i64 n).wf = true) (A : Option Addr) (c : Nat) (l : List Int) (y : Kd.C (Kd.int .i64) w A l.length l ∧ l.length * 8 ≤ 140737488351232 ∧ l.length ≤ c ∧ ∀ x ∈ l, (Lit.int .i64 x).wf = true) (hE : ∃ Ae, Errs w Ae) (hP : Pow10 w) :
    Calls Tryd.prog 6 #[.int .i64 n, .slice A l.length c] w fun e w' => e = .returned (.bool true) ∧ Below w.heap.size w w' := by
  obtain ⟨Ae, hE⟩ := hE
  obtain ⟨hr, hl8, hlc, -⟩ := y
  have hmb : -9223372036854775808 ≤ n ∧ n ≤ 9223372036854775807 := by simpa [Lit.wf, IntKind.min, IntKind.max, IntKind.bits, IntKind.signed] using hn
  have HE := Lib.hid hE
  have HAw0 : Hid (∀ W, Below w.heap.size w W → Calls Tryd.prog 11 #[] W fun e w' => e = .returned (.bool true) ∧ Below w.heap.size w w') := Lib.hid (fun W hW =>
    (awake_calls W Ae ((HE.out.below hW).someL _ (by decide))).mono (fun e w' h => ⟨h.1, below_next hW h.2⟩))
  have hm1 : IntKind.i64.wrap (n - 1) = n - 1 ∨ ¬ (2000 < n ∧ n ≤ 65537) := by
    by_cases h : 2000 < n ∧ n ≤ 65537
    · exact .inl (IntWalk.i64_in _ (by omega))
    · exact .inr h
  by_cases hg : 2000 < n ∧ n ≤ 65537 ∧ (l.length : Int) = n - 1
  · obtain ⟨g1, g2, g3⟩ := hg
    have g4 : ((l.length : Int) == n - 1) = true := by simpa using g3
    clear hE hr hn hm1
    go_enter Tryd.func6, Tryd.ntmps6
    go_wp2_with (go_at_call 11; refine (HAw0.out _ (Below.refl _ _)).mono ?_; rintro e w9 ⟨rfl, hb⟩; have HB9 := Lib.hid hb; clear hb)
    go_ret
    exact ⟨rfl, HB9.out⟩
  · have hcase : ¬ 2000 < n ∨ (2000 < n ∧ ¬ n ≤ 65537) ∨ (2000 < n ∧ n ≤ 65537 ∧ ((l.length : Int) == n - 1) = false) := by
      by_cases h1 : 2000 < n
      · by_cases h2 : n ≤ 65537
        · exact .inr (.inr ⟨h1, h2, by simpa using fun h => hg ⟨h1, h2, h⟩⟩)
        · exact .inr (.inl ⟨h1, h2⟩)
      · exact .inl h1
    have HR := Lib.hid hr
    have HP := Lib.hid hP
    have HLe := Lib.hid (lentInts_calls A c l w hr (by omega))
    obtain ⟨L, hL⟩ : ∃ L, joinsR n l = L := ⟨_, rfl⟩
    have hLl : L.length ≤ 65537 := by rw [← hL]; have := joinsR_len n l; omega
    obtain ⟨K, hK⟩ : ∃ K, ordE n l = K := ⟨_, rfl⟩
    obtain ⟨KT, hKT⟩ : ∃ K, textE n l = K := ⟨_, rfl⟩
    obtain ⟨TX, hTX⟩ : ∃ K, textR n l = K := ⟨_, rfl⟩
    have HJo : Hid (∀ (B : Option Addr) (d : Nat) (W : World), Below w.heap.size w W → Kd.C (Kd.int .i64) W B l.length l → Calls Tryd.prog 10 #[.int .i64 n, .slice B l.length d] W fun e w' => ∃ v ev, e = .returned (.tuple #[v, ev]) ∧ RC K3 29 w' W.heap.size v L ∧ ErrV w' Ae ev K (-1) ∧ Below W.heap.size W w') := Lib.hid (fun B d W hW hC => by
      rw [← hL, ← hK]
      exact joinsX_calls n B d l W Ae ((HE.out.below hW).someL _ (by decide)) hC hmb (by omega))
    have HTx : Hid (∀ (B : Option Addr) (d : Nat) (W : World), Below w.heap.size w W → Kd.C (Kd.int .i64) W B l.length l → Calls Tryd.prog 27 #[.int .i64 n, .slice B l.length d] W fun e w' => ∃ ev, e = .returned (.tuple #[.string TX, ev]) ∧ ErrV w' Ae ev KT (-1) ∧ Below W.heap.size W w') := Lib.hid (fun B d W hW hC => by
      rw [← hTX, ← hKT]
      exact textX_calls n B d l W Ae ((HE.out.below hW).someL _ (by decide)) (HP.out.below hW) hC hmb (by omega))
    have HRj : Hid (∀ (W : World), Below w.heap.size w W → Calls Tryd.prog 26 #[.int .i64 n, .slice A l.length c] W fun e w' => ∃ v, e = .returned (.tuple #[v, .int .i64 (K : Nat)]) ∧ RC K3 29 w' W.heap.size v L ∧ Below W.heap.size W w') := Lib.hid (fun W hW => by
      rw [← hL, ← hK]
      exact refJoins_calls n A c l W (Kd.C_below HR.out hW) hmb)
    have HRt : Hid (∀ (W : World), Below w.heap.size w W → Calls Tryd.prog 28 #[.int .i64 n, .slice A l.length c] W fun e w' => e = .returned (.tuple #[.string TX, .int .i64 (KT : Nat)]) ∧ Below W.heap.size W w') := Lib.hid (fun W hW => by
      rw [← hTX, ← hKT]
      exact refText_calls n A c l W (Kd.C_below HR.out hW) hmb)
    have e1 : (TX.toList == TX.toList) = true := by simp
    have e2 : (TX.toList != TX.toList) = false := by simp
    clear hE hr hn hL hK hKT hTX hP hg hm1
    have HEq : Hid (∀ (B B' : Option Addr) (d d' : Nat) (W : World), K3.C W B L.length L → K3.C W B' L.length L → Quiet 29 #[.slice B L.length d, .slice B' L.length d'] W (.bool true)) := Lib.hid (fun B B' d d' W h1 h2 => by
      have := threes_calls B B' d d' L L W h1 h2
      rwa [decide_eq_true rfl] at this)
    rcases hcase with g1 | ⟨g1, g2⟩ | ⟨g1, g2, g3⟩
    all_goals
      go_enter Tryd.func6, Tryd.ntmps6
      go_upto_region 9 with (first
        | (go_at_call 20; refine HLe.out.mono ?_; rintro e w1 ⟨A1, c1, rfl, hq, hR1, hb⟩; have hlr := lent_reads hR1; have HI1 := Lib.hid hlr.1; have HB1 := Lib.hid hb; have HC1 := Lib.hid hlr.2; clear hR1 hb hlr)
        | (go_at_call 28; refine (HRt.out w5 HB15.out).mono ?_; rintro e w6 ⟨rfl, hb⟩; have HB6 := Lib.hid hb; clear hb)
        | (go_at_call 27; refine (HTx.out A1 c1 w4 HB14.out (Kd.C_below HC1.out HB24.out)).mono ?_; rintro e w5 ⟨ev5, rfl, he, hb⟩; have HV5 := Lib.hid he; have HB5 := Lib.hid hb; have HB15 := Lib.hid (below_next HB14.out hb); clear he hb)
        | (go_at_call 26; refine (HRj.out w3 (below_next (below_next HB1.out HB2.out) HB3.out)).mono ?_; rintro e w4 ⟨v4, rfl, ho, hb⟩; have HO4 := Lib.hid ho; have HB4 := Lib.hid hb; have HB24 := Lib.hid (below_next (below_next HB2.out HB3.out) hb); have HB14 := Lib.hid (below_next HB1.out HB24.out); clear ho hb)
        | (go_at_call 10; refine (HJo.out A1 c1 w2 (below_next HB1.out HB2.out) (Kd.C_below HC1.out HB2.out)).mono ?_; rintro e w3 ⟨v3, ev3, rfl, ho, he, hb⟩; have HO3 := Lib.hid ho; have HB3 := Lib.hid hb; clear ho he hb)
        | (go_at_call 10; refine (HJo.out A1 c1 w1 HB1.out HC1.out).mono ?_; rintro e w2 ⟨v2, ev2, rfl, ho, he, hb⟩; have HO2 := Lib.hid ho; have HV2 := Lib.hid he; have HB2 := Lib.hid hb; clear ho he hb))
      have hs2 := HB2.out.size
      have hs3 := HB3.out.size
      have h24 : Below w2.heap.size w2 w4 := below_next HB3.out HB4.out
      have h46 : Below w4.heap.size w4 w6 := below_next HB5.out HB6.out
      have hT : Three K3 29 w1 w6 v2 v3 v4 L L L :=
        Three.below ⟨HO2.out.below h24, (HO3.out.below HB4.out).lower hs2, HO4.out.lower (by omega), (HO2.out.disj_later HO3.out).symm, ((HO2.out.below HB3.out).disj_later HO4.out).symm, (HO3.out.disj_later HO4.out).symm, below_next HB2.out h24⟩ h46
      have HB16 := Lib.hid (below_next HB1.out hT.bel)
      have HT := Lib.hid hT
      obtain ⟨A2, c2, rfl, hlc2, hc2⟩ := hT.rl.reads
      obtain ⟨A3, c3, rfl, hlc3, hc3⟩ := hT.rm.reads
      obtain ⟨A4, c4, rfl, hlc4, hc4⟩ := hT.rn.reads
      have HKd := Lib.hid (kind_calls (HE.out.below HB16.out) ((HV2.out.below h24).below h46))
      have HV6 := Lib.hid (HV5.out.below HB6.out)
      have HKd2 : Hid (∀ W, Below w6.heap.size w6 W → Calls Tryd.prog 23 #[ev5] W fun e w' => e = .returned (.int .i64 (KT : Nat)) ∧ Below W.heap.size W w') := Lib.hid (fun W hW => kind_calls (HE.out.below (below_next HB16.out hW)) (HV6.out.below hW))
      clear hT hc2 hc3 hc4 h24 h46 hs2 hs3 HO2 HO3 HO4 HV2 HJo HTx HRj HRt HLe
      have HKp : Hid (∀ W, Below w1.heap.size w1 W → Quiet 25 #[.slice A1 l.length c1, .slice A l.length c] W (.bool true)) := Lib.hid (fun W hW => keptInts_calls A1 A c1 c l W (Kd.C_below HI1.out hW) hq (Kd.C_below HR.out (below_next HB1.out hW)))
      go_upto_region 11 with (first
        | (go_at_call 23; (with_reducible refine HKd.out.mono ?_); rintro e w7 ⟨rfl, hb⟩; have HT7 := Lib.hid (HT.out.below hb); have HB67 := Lib.hid hb; clear hb)
        | (go_at_call 29; (with_reducible refine (HEq.out A2 A4 c2 c4 w7 HT7.out.rl.C HT7.out.rn.C).mono ?_); rintro e w' ⟨rfl, n1, rfl⟩)
        | (go_at_call 29; (with_reducible refine (HEq.out A3 A4 c3 c4 (w7.drewN n1) (Kd.C_drewN HT7.out.rm.C n1) (Kd.C_drewN HT7.out.rn.C n1)).mono ?_); rintro e w' ⟨rfl, n2, rfl⟩)
        | (go_at_call 23; (refine (HKd2.out _ (pw_below_drewN HB67.out _)).mono ?_); rintro e w8 ⟨rfl, hb⟩; have HT8 := Lib.hid ((HT7.out.below (pw_below_drewN (Below.refl _ _) _)).below hb); clear hb)
        | (go_at_call 25; (refine (HKp.out _ HT8.out.bel).mono ?_); rintro e w' ⟨rfl, n3, rfl⟩))
      obtain ⟨w9, hw9⟩ : ∃ w9, w8.drewN n3 = w9 := ⟨_, rfl⟩
      rw [hw9]
      have HT9 : Hid (Three K3 29 w1 w9 (.slice A2 L.length c2) (.slice A3 L.length c3) (.slice A4 L.length c4) (List.replicate 0 (-7, -7, -7) ++ L.drop 0) L L) := Lib.hid (by rw [← hw9]; simpa using HT8.out.below (pw_below_drewN (Below.refl _ _) _))
      clear hw9 e1 e2
      go_wp2
      go_loopw [16] (fun x wr => ∃ j : Nat, x = .int .i64 j ∧ j ≤ L.length ∧ Hid (Three K3 29 w1 wr (.slice A2 L.length c2) (.slice A3 L.length c3) (.slice A4 L.length c4) (List.replicate j (-7, -7, -7) ++ L.drop j) L L)) (fun x _ => L.length - (intOf x).toNat)
      case atStart => exact ⟨0, rfl, by omega, HT9⟩
      case round =>
        obtain ⟨j, rfl, hj, HS⟩ := hrel
        obtain ⟨X, hX⟩ : ∃ X, List.replicate j ((-7 : Int), (-7 : Int), (-7 : Int)) ++ L.drop j = X := ⟨_, rfl⟩
        have hXl : X.length = L.length := by rw [← hX]; simp; omega
        have HXl := Lib.hid hXl
        by_cases hlt : j < L.length
        · have hset : X.set j (-7, -7, -7) = List.replicate (j + 1) (-7, -7, -7) ++ L.drop (j + 1) := by rw [← hX]; exact set_fill _ _ _ hlt
          have HSet := Lib.hid hset
          rw [hX] at HS
          have hs := HS.out.rl
          rw [← hXl] at hs
          obtain ⟨ad, x, y, z, rfl, hx, hy, hz, -⟩ := at_K3 hs.C j (by omega)
          have HSl := Lib.hid hs
          clear hs hset hX hXl hx hy hz
          go_wp2_with (refine gate_ (.store 29 (.tmp 106) (.tmp 105)) rfl ?_; go_loud (refine RC_store K3 (w0 := w1) w1.heap.size rfl rfl 29 (.tmp 106) (.tmp 105) rfl 29 (A := some ad) (c := c2) j X (-7, -7, -7) _ [.int .i64 (-7), .int .i64 (-7), .int .i64 (-7)] (0, 0, 0) rfl rfl rfl size3i (by simp [Value.oneCell']) HSl.out (by have := HXl.out; omega) rfl ⟨[.int .i64 (-7)], [.int .i64 (-7), .int .i64 (-7)], rfl, rfl, [.int .i64 (-7)], [.int .i64 (-7)], rfl, rfl, rfl⟩ HS.out.bel ?_); intro w7 ho hb hg; rw [HXl.out] at ho hg; have HS7 : Hid (Three K3 29 w1 w7 (.slice (some ad) L.length c2) (.slice A3 L.length c3) (.slice A4 L.length c4) (X.set j (-7, -7, -7)) L L) := Lib.hid (HS.out.putL K3_E ho hb hg (.inl rfl)); rw [HSet.out] at HS7; clear ho hb hg)
          go_roundw
          case rel => exact ⟨j + 1, by go_num, by omega, HS7⟩
          case measure => simp [intOf]; omega
        · obtain rfl : j = L.length := by omega
          have HS0 : Hid (Three K3 29 w1 wr (.slice A2 L.length c2) (.slice A3 L.length c3) (.slice A4 L.length c4) (List.replicate L.length (-7, -7, -7) ++ List.replicate 0 (-8, 0, 0)) (L ++ List.replicate 0 (-9, 0, 0)) L) := Lib.hid (by simpa using HS.out)
          obtain ⟨wo, rfl⟩ : ∃ wo : World, wo = wr := ⟨_, rfl⟩
          clear hX
          go_wp2
          go_loopw [6, 8, 17] (fun uu vv x wr => ∃ (j : Nat) (u v : Value), x = .int .i64 j ∧ j ≤ 30 ∧ u = uu ∧ v = vv ∧ Hid (Three K3 29 w1 wr u v (.slice A4 L.length c4) (List.replicate L.length (-7, -7, -7) ++ List.replicate j (-8, 0, 0)) (L ++ List.replicate j (-9, 0, 0)) L)) (fun _ _ x _ => 30 - (intOf x).toNat)
          case atStart => exact ⟨0, _, _, rfl, by omega, rfl, rfl, HS0⟩
          case round =>
            obtain ⟨j, u, v, rfl, hj, rfl, rfl, HT⟩ := hrel
            by_cases hlt : j < 30
            · go_wp2_with (first
                | ((with_reducible refine gate_builtin (b := .append) (xs := #[.tmp 111, .tmp 113]) rfl ?_); at_builtin; go_loud (refine RC_append K3 (w0 := w1) w1.heap.size rfl (.tmp 111) (.tmp 113) 23 29 (.agg #[.int .i64 0, .int .i64 0, .int .i64 0]) 24 rfl Tryd.underlying23 info3i rfl (by decide) (by omega) u _ (-8, 0, 0) [.int .i64 (-8), .int .i64 0, .int .i64 0] rfl rfl ⟨[.int .i64 (-8)], [.int .i64 0, .int .i64 0], rfl, rfl, [.int .i64 0], [.int .i64 0], rfl, rfl, rfl⟩ HT.out.rl HT.out.bel HT.out.bel.size (by simp; omega) ?_); intro v1 w7 ho hb hg hat; have HT7 := Lib.hid (HT.out.putL K3_E ho hb hg hat); clear ho hb hg hat)
                | ((with_reducible refine gate_builtin (b := .append) (xs := #[.tmp 115, .tmp 117]) rfl ?_); at_builtin; go_loud (refine RC_append K3 (w0 := w1) w1.heap.size rfl (.tmp 115) (.tmp 117) 23 29 (.agg #[.int .i64 0, .int .i64 0, .int .i64 0]) 24 rfl Tryd.underlying23 info3i rfl (by decide) (by omega) v _ (-9, 0, 0) [.int .i64 (-9), .int .i64 0, .int .i64 0] rfl rfl ⟨[.int .i64 (-9)], [.int .i64 0, .int .i64 0], rfl, rfl, [.int .i64 0], [.int .i64 0], rfl, rfl, rfl⟩ HT7.out.rm HT7.out.bel HT7.out.bel.size (by simp; omega) ?_); intro v2 w8 ho hb hg hat; have HT8 := Lib.hid (HT7.out.putM K3_E ho hb hg hat); clear ho hb hg hat))
              rw [List.append_assoc, ← List.replicate_succ', List.append_assoc, ← List.replicate_succ'] at HT8
              go_roundw
              case rel => exact ⟨j + 1, _, _, by go_num, by omega, rfl, rfl, HT8⟩
              case measure => simp [intOf]; omega
            · obtain rfl : j = 30 := by omega
              obtain ⟨A6, c6, rfl, hc6, hC6⟩ := HT.out.rm.form (n := L.length + 30) (by simp)
              obtain ⟨A7, c7, rfl, hc7, hC7⟩ := HT.out.rl.form (n := L.length + 30) (by simp)
              have hC6' : K3.C wr A6 L.length L := Kd.C_takeN hC6
              obtain ⟨ad, x, y, z, rfl, hx, hy, hz, HX⟩ := at_K3 hC7 (L.length + 29) (by simp)
              have hxy : (x, y, z) = ((-8 : Int), (0 : Int), (0 : Int)) := by
                rw [← HX.out, List.getD_eq_getElem?_getD, List.getElem?_append_right (by simp)]
                simp
              have HTq := Lib.hid (HEq.out A6 A4 c6 c4 wr hC6' HT.out.rn.C)
              obtain ⟨rfl, rfl, rfl⟩ : x = -8 ∧ y = 0 ∧ z = 0 := by simpa using hxy
              have HBl := Lib.hid HT.out.bel
              have HQe : ∀ W : World, (Op.equalIn 10000 29 (.agg #[.int .i64 (-8), .int .i64 0, .int .i64 0]) (.agg #[.int .i64 (-8), .int .i64 0, .int .i64 0])).run Tryd.prog W = .ok true W := fun W => eq3 9998 (-8) 0 0 (-8) 0 0 W
              clear hxy hC6 hC6' hC7
              go_wp2_with (first
                | (go_at_call 29; (with_reducible refine HTq.out.mono ?_); rintro e w' ⟨rfl, n4, rfl⟩)
                | (go_at_call 11; refine (HAw0.out _ (pw_below_drewN (below_next HB1.out HBl.out) _)).mono ?_; rintro e w9 ⟨rfl, hb⟩; have HB9 := Lib.hid hb; clear hb))
              go_ret
              exact ⟨ret_bool (by simp), HB9.out⟩
end Go.Proofs.YtcikcnkhcfhomaaDoor.Hand
/- Plain facts of the orders: Even's numbers, step by step and round by round. -/
namespace Go.Proofs.YtcikcnkhcfhomaaDoor.Math

/-- Even's numbers as the closure tells them: so many pieces left, the place at hand. -/
def evenS : Nat → Nat → Nat → List Int
  | 0, _, _ => []
  | n + 1, left, at_ => let a := if left ≤ at_ + 1 then 0 else at_; (a : Int) :: evenS n (left - 1) (a + 1)
/-- The document's rounds. -/
def evenR (m : Nat) : List Int :=
  if _h : 1 < m then (List.range (m / 2)).map (fun i : Nat => (i : Int)) ++ evenR (m - m / 2) else []
termination_by m
decreasing_by omega
theorem even_in (M : Nat) : ∀ (d i n : Nat), i + d = M / 2 → evenS (d + n) (M - i) i = ((List.range d).map (fun j : Nat => ((i + j : Nat) : Int))) ++ evenS n (M - M / 2) (M / 2)
  | 0, i, n, h => by
    have : i = M / 2 := by omega
    subst this
    simp
  | d + 1, i, n, h => by
    rw [show d + 1 + n = (d + n) + 1 by omega, evenS]
    have h1 : ¬ (M - i ≤ i + 1) := by omega
    simp only [h1, if_false]
    rw [show M - i - 1 = M - (i + 1) by omega, even_in M d (i + 1) n (by omega), List.range_succ_eq_map]
    simp
    intro j _
    omega
theorem even_reset (n M : Nat) (h : M - M / 2 ≤ M / 2 + 1) : evenS n (M - M / 2) (M / 2) = evenS n (M - M / 2) 0 ∨ n = 0 := by
  cases n with
  | zero => exact .inr rfl
  | succ n =>
    left
    rw [evenS, evenS]
    simp only [h, if_true]
    by_cases h2 : M - M / 2 ≤ 0 + 1
    · simp only [h2, if_true]
    · simp only [h2, if_false]
theorem even_is : ∀ m : Nat, evenS (m - 1) m 0 = evenR m := fun m => by
  induction m using Nat.strongRecOn with
  | _ m ih =>
    rw [evenR]
    by_cases h : 1 < m
    · rw [dif_pos h]
      have h1 := even_in m (m / 2) 0 (m - m / 2 - 1) (by omega)
      rw [show m / 2 + (m - m / 2 - 1) = m - 1 by omega, Nat.sub_zero] at h1
      rw [h1]
      simp only [Nat.zero_add]
      congr 1
      rw [← ih (m - m / 2) (by omega)]
      rcases even_reset (m - m / 2 - 1) m (by omega) with h2 | h2
      · exact h2
      · rw [h2]; rfl
    · rw [dif_neg h, show m - 1 = 0 by omega]
      rfl
end Go.Proofs.YtcikcnkhcfhomaaDoor.Math
/- Contracts: plan.order over a closure: Left, Right, Even. (Under way.) -/
namespace Go.Proofs.YtcikcnkhcfhomaaDoor.Hand
open Go.RowKit Go.Proofs.YtcikcnkhcfhomaaDoorW.PrintWords Go.Proofs.YtcikcnkhcfhomaaDoorW.PrintMore Go.Proofs.YtcikcnkhcfhomaaDoor.Math

theorem left1_calls (k : Int) (w : World) : Quiet 39 #[.int .i64 k] w (.int .i64 0) := by
  unfold Quiet
  go_enter Tryd.func39, Tryd.ntmps39
  go_wp2
  go_ret
  exact ⟨rfl, 0, rfl⟩
theorem right1_calls (m : Int) (b k : Nat) (w : World) (hc : w.cell? ⟨b, 0, none⟩ = some (.int .i64 m)) (hm : 2 ≤ m ∧ m ≤ 65537) (hk : (k : Int) ≤ m - 2) : Quiet 40 #[.int .i64 k, .pointer (some ⟨b, 0, none⟩)] w (.int .i64 (m - 2 - k)) := by
  unfold Quiet
  go_enter Tryd.func40, Tryd.ntmps40
  go_wp2
  go_ret
  exact ⟨rfl, 0, rfl⟩
theorem infoIntO : (Tryd.prog.info? 3).map (fun i => (i.zero, i.size, i.bytes)) = some (some (.int .i64 0), 1, 8) := by kernel_rfl
set_option maxHeartbeats 1000000 in
theorem orderL_calls (m : Int) (w : World) : Calls Tryd.prog 38 #[.int .i64 m, .func (.func 39) #[] #[]] w fun e w' => ∃ v, e = .returned v ∧ (Kd.int .i64).R 3 w' w.heap.size (fun _ => True) v (if 2 ≤ m ∧ m ≤ 65537 then List.replicate (m - 1).toNat (0 : Int) else []) ∧ Below w.heap.size w w' := by
  by_cases h : 2 ≤ m ∧ m ≤ 65537
  · rw [if_pos h]
    obtain ⟨M, rfl⟩ : ∃ M : Nat, m = (M : Int) + 1 := ⟨(m - 1).toNat, by omega⟩
    go_enter Tryd.func38, Tryd.ntmps38
    go_upto_region 3 with (fail)
    have hmk : ∀ W : World, (Instr.makeSlice 22 (.int .i64 (M : Int)) (.int .i64 (M : Int))).run Tryd.prog W = .ok (.slice (some ⟨W.heap.size, 0, none⟩) M M) (W.alloc (.cells (madeCells #[.int .i64 0] M) 3)) := fun W =>
      print_make_of (P := Tryd.prog) 22 3 (.int .i64 0) 8 Tryd.underlying22 infoIntO rfl (by decide) M (by omega) W
    have hR0 : (Kd.int .i64).R 3 (w.alloc (.cells (madeCells #[.int .i64 0] M) 3)) w.heap.size (fun _ => True) (.slice (some ⟨w.heap.size, 0, none⟩) M M) (List.replicate M 0) := by
      have h := own_made_of' (enc := Value.int .i64) (d := (0 : Int)) w w.heap.size 3 M (Nat.le_refl _) (by omega)
      exact Kd.R_of_own (enc := Value.int .i64) (h1 := fun _ => rfl) h (fun _ _ => trivial)
    have HR0 := Lib.hid hR0
    have HB0 := Lib.hid (below_alloc (Below.refl w.heap.size w) (.cells (madeCells #[.int .i64 0] M) 3))
    clear hR0
    go_wp2
    clear hmk
    go_loopw [18] (fun x wr => ∃ j : Nat, x = .int .i64 j ∧ j ≤ M ∧ Hid ((Kd.int .i64).R 3 wr w.heap.size (fun _ => True) (.slice (some ⟨w.heap.size, 0, none⟩) M M) (List.replicate M 0)) ∧ Hid (Below w.heap.size w wr)) (fun x _ => M - (intOf x).toNat)
    case atStart => exact ⟨0, rfl, by omega, HR0, HB0⟩
    case round =>
      obtain ⟨j, rfl, hj, HR, HB⟩ := hrel
      by_cases hlt : j < M
      · go_wp2_with (fail)
        go_at_call 39
        refine (left1_calls _ _).mono ?_
        rintro e w' ⟨rfl, n, rfl⟩
        have hR1 := Kd.R_drewN HR.out n
        obtain ⟨hc, hf⟩ := Kd.R_celln (0 : Int) hR1 (j : Int) (by omega) (by omega)
        have hR2 := Kd.R_putn hR1 (j : Int) (0 : Int)
        rw [Int.toNat_natCast] at hc hf hR2
        rw [show (List.replicate M (0 : Int)).set j 0 = List.replicate M 0 by apply List.ext_getElem <;> simp] at hR2
        have HR2 := Lib.hid hR2
        have HB2 := Lib.hid ((pw_below_drewN HB.out n).setCell (p := ⟨w.heap.size, j, none⟩) (Nat.le_refl _) (.int .i64 0))
        clear hR2 hR1
        go_wp2
        go_roundw
        case rel => exact ⟨j + 1, by go_num, by omega, HR2, HB2⟩
        case measure => simp [intOf]; omega
      · obtain rfl : j = M := by omega
        go_wp2
        go_ret
        exact ⟨_, rfl, by simpa using HR.out, HB.out⟩
  · rw [if_neg h]
    have hcase : m < 2 ∨ (¬ m < 2 ∧ 65537 < m) := by omega
    clear h
    rcases hcase with h2 | ⟨h2, h3⟩
    all_goals
      go_enter Tryd.func38, Tryd.ntmps38
      go_wp2
      go_ret
      exact ⟨_, rfl, Kd.R_nil _ _ _ _ _, Below.refl _ _⟩
theorem fill_next (f : Nat → Int) (M j : Nat) (h : j < M) : ((List.range j).map f ++ List.replicate (M - j) (0 : Int)).set j (f j) = (List.range (j + 1)).map f ++ List.replicate (M - (j + 1)) 0 := by
  rw [show M - j = (M - (j + 1)) + 1 by omega, List.replicate_succ, List.set_append_right _ _ (by simp)]
  simp [List.range_succ]
set_option maxHeartbeats 1000000 in
theorem orderR_calls (m : Int) (b : Nat) (w : World) (hc0 : w.cell? ⟨b, 0, none⟩ = some (.int .i64 m)) : Calls Tryd.prog 38 #[.int .i64 m, .func (.func 40) #[] #[.pointer (some ⟨b, 0, none⟩)]] w fun e w' => ∃ v, e = .returned v ∧ (Kd.int .i64).R 3 w' w.heap.size (fun _ => True) v (if 2 ≤ m ∧ m ≤ 65537 then (List.range (m - 1).toNat).map (fun j : Nat => m - 2 - (j : Int)) else []) ∧ Below w.heap.size w w' := by
  have HC0 := Lib.hid hc0
  clear hc0
  by_cases h : 2 ≤ m ∧ m ≤ 65537
  · rw [if_pos h]
    obtain ⟨M, rfl⟩ : ∃ M : Nat, m = (M : Int) + 1 := ⟨(m - 1).toNat, by omega⟩
    rw [show ((M : Int) + 1 - 1).toNat = M by omega]
    go_enter Tryd.func38, Tryd.ntmps38
    go_upto_region 3 with (fail)
    have hmk : ∀ W : World, (Instr.makeSlice 22 (.int .i64 (M : Int)) (.int .i64 (M : Int))).run Tryd.prog W = .ok (.slice (some ⟨W.heap.size, 0, none⟩) M M) (W.alloc (.cells (madeCells #[.int .i64 0] M) 3)) := fun W =>
      print_make_of (P := Tryd.prog) 22 3 (.int .i64 0) 8 Tryd.underlying22 infoIntO rfl (by decide) M (by omega) W
    have hR0 : (Kd.int .i64).R 3 (w.alloc (.cells (madeCells #[.int .i64 0] M) 3)) w.heap.size (fun _ => True) (.slice (some ⟨w.heap.size, 0, none⟩) M M) (List.replicate M 0) := by
      have h := own_made_of' (enc := Value.int .i64) (d := (0 : Int)) w w.heap.size 3 M (Nat.le_refl _) (by omega)
      exact Kd.R_of_own (enc := Value.int .i64) (h1 := fun _ => rfl) h (fun _ _ => trivial)
    have HR0 := Lib.hid hR0
    have HB0 := Lib.hid (below_alloc (Below.refl w.heap.size w) (.cells (madeCells #[.int .i64 0] M) 3))
    clear hR0
    go_wp2
    clear hmk
    go_loopw [18] (fun x wr => ∃ j : Nat, x = .int .i64 j ∧ j ≤ M ∧ Hid ((Kd.int .i64).R 3 wr w.heap.size (fun _ => True) (.slice (some ⟨w.heap.size, 0, none⟩) M M) ((List.range j).map (fun j : Nat => (M : Int) + 1 - 2 - (j : Int)) ++ List.replicate (M - j) 0)) ∧ Hid (Below w.heap.size w wr)) (fun x _ => M - (intOf x).toNat)
    case atStart => exact ⟨0, rfl, by omega, HR0, HB0⟩
    case round =>
      obtain ⟨j, rfl, hj, HR, HB⟩ := hrel
      by_cases hlt : j < M
      · have hcb := (HB.out.cell (p := ⟨b, 0, none⟩) (World.block_lt_of_cell? w _ HC0.out)).trans HC0.out
        have HCl := Lib.hid (right1_calls ((M : Int) + 1) b j wr hcb (by omega) (by omega))
        clear hcb
        go_wp2_with (fail)
        go_at_call 40
        refine HCl.out.mono ?_
        rintro e w' ⟨rfl, n, rfl⟩
        have hR1 := Kd.R_drewN HR.out n
        obtain ⟨hc, hf⟩ := Kd.R_celln (0 : Int) hR1 (j : Int) (by omega) (by omega)
        have hR2 := Kd.R_putn hR1 (j : Int) ((M : Int) + 1 - 2 - (j : Int))
        rw [Int.toNat_natCast] at hc hf hR2
        rw [fill_next (fun j : Nat => (M : Int) + 1 - 2 - (j : Int)) M j hlt] at hR2
        have HR2 := Lib.hid hR2
        have HB2 := Lib.hid ((pw_below_drewN HB.out n).setCell (p := ⟨w.heap.size, j, none⟩) (Nat.le_refl _) (.int .i64 ((M : Int) + 1 - 2 - (j : Int))))
        clear hR2 hR1
        go_wp2
        go_roundw
        case rel => exact ⟨j + 1, by go_num, by omega, HR2, HB2⟩
        case measure => simp [intOf]; omega
      · obtain rfl : j = M := by omega
        go_wp2
        go_ret
        exact ⟨_, rfl, by simpa using HR.out, HB.out⟩
  · rw [if_neg h]
    have hcase : m < 2 ∨ (¬ m < 2 ∧ 65537 < m) := by omega
    clear h
    rcases hcase with h2 | ⟨h2, h3⟩
    all_goals
      go_enter Tryd.func38, Tryd.ntmps38
      go_wp2
      go_ret
      exact ⟨_, rfl, Kd.R_nil _ _ _ _ _, Below.refl _ _⟩
end Go.Proofs.YtcikcnkhcfhomaaDoor.Hand
/- Contracts: plan.order over Even's closure. -/
namespace Go.Proofs.YtcikcnkhcfhomaaDoor.Hand
open Go.RowKit Go.Proofs.YtcikcnkhcfhomaaDoorW.PrintWords Go.Proofs.YtcikcnkhcfhomaaDoorW.PrintMore Go.Proofs.YtcikcnkhcfhomaaDoor.Math

/-- Even's two variables. -/
structure EvV (w : World) (ba bl a l : Nat) : Prop where
  ca : w.cell? ⟨ba, 0, none⟩ = some (.int .i64 (a : Nat))
  cl : w.cell? ⟨bl, 0, none⟩ = some (.int .i64 (l : Nat))
  fa : w.frozen? ⟨ba, 0, none⟩ = false
  fl : w.frozen? ⟨bl, 0, none⟩ = false
  ne : ba ≠ bl
theorem EvV.setA {w : World} {ba bl a l : Nat} (h : EvV w ba bl a l) (x : Nat) : EvV (w.setCell ⟨ba, 0, none⟩ (.int .i64 (x : Nat))) ba bl x l :=
  ⟨World.cell?_setCell_same _ _ _ h.ca, (World.cell?_setCell_other _ _ _ _ (by intro e; injection e with e; exact h.ne e)).trans h.cl, by rw [World.frozen?_setCell]; exact h.fa, by rw [World.frozen?_setCell]; exact h.fl, h.ne⟩
theorem EvV.setL {w : World} {ba bl a l : Nat} (h : EvV w ba bl a l) (x : Nat) : EvV (w.setCell ⟨bl, 0, none⟩ (.int .i64 (x : Nat))) ba bl a x :=
  ⟨(World.cell?_setCell_other _ _ _ _ (by intro e; injection e with e; exact h.ne e.symm)).trans h.ca, World.cell?_setCell_same _ _ _ h.cl, by rw [World.frozen?_setCell]; exact h.fa, by rw [World.frozen?_setCell]; exact h.fl, h.ne⟩
theorem EvV.move {w w' : World} {ba bl a l : Nat} (h : EvV w ba bl a l) (h1 : w'.heap[ba]? = w.heap[ba]?) (h2 : w'.heap[bl]? = w.heap[bl]?) : EvV w' ba bl a l :=
  ⟨(World.cell?_of_block (w := w) (a := ⟨ba, 0, none⟩) h1).trans h.ca, (World.cell?_of_block (w := w) (a := ⟨bl, 0, none⟩) h2).trans h.cl, (World.frozen?_of_block (w := w) (a := ⟨ba, 0, none⟩) h1).trans h.fa, (World.frozen?_of_block (w := w) (a := ⟨bl, 0, none⟩) h2).trans h.fl, h.ne⟩
set_option maxHeartbeats 1000000 in
theorem even1_calls (k : Int) (ba bl a l B : Nat) (w : World) (h : EvV w ba bl a l) (ha : a ≤ 100000) (hl : 1 ≤ l ∧ l ≤ 100000) (hB : B ≤ ba ∧ B ≤ bl) :
    Calls Tryd.prog 41 #[.int .i64 k, .pointer (some ⟨ba, 0, none⟩), .pointer (some ⟨bl, 0, none⟩)] w fun e w' => e = .returned (.int .i64 ((if l ≤ a + 1 then 0 else a : Nat) : Int)) ∧ EvV w' ba bl ((if l ≤ a + 1 then 0 else a) + 1) (l - 1) ∧ Below B w w' ∧ w'.heap.size = w.heap.size ∧ ∀ i, i ≠ ba → i ≠ bl → w'.heap[i]? = w.heap[i]? := by
  have HV := Lib.hid h
  have c0 := h.ca
  have c1 := h.cl
  have f0 := h.fa
  clear h
  have HBl0 := Lib.hid (Below.refl B w)
  have HSz0 : Hid (w.heap.size = w.heap.size ∧ ∀ i, i ≠ ba → i ≠ bl → w.heap[i]? = w.heap[i]?) := Lib.hid ⟨rfl, fun _ _ _ => rfl⟩
  have step : Hid (∀ (w1 : World) (g : Nat) (v : Value), g = ba ∨ g = bl → Below B w w1 → (w1.heap.size = w.heap.size ∧ ∀ i, i ≠ ba → i ≠ bl → w1.heap[i]? = w.heap[i]?) → Below B w (w1.setCell ⟨g, 0, none⟩ v) ∧ ((w1.setCell ⟨g, 0, none⟩ v).heap.size = w.heap.size ∧ ∀ i, i ≠ ba → i ≠ bl → (w1.setCell ⟨g, 0, none⟩ v).heap[i]? = w.heap[i]?)) := Lib.hid (fun w1 g v hg h1 h2 =>
    ⟨h1.setCell (by show B ≤ g; rcases hg with rfl | rfl <;> omega) _, by rw [World.size_setCell]; exact h2.1, fun i i1 i2 => (Below.heap_setCell _ _ _ i (by show i ≠ g; rcases hg with rfl | rfl <;> assumption)).trans (h2.2 i i1 i2)⟩)
  by_cases hr : l ≤ a + 1
  · rw [if_pos hr]
    have hrI : (l : Int) ≤ (a : Int) + 1 := by omega
    go_enter Tryd.func41, Tryd.ntmps41
    go_upto_region 3 with (fail)
    obtain ⟨w1, hw1⟩ : ∃ w1, w.setCell ⟨ba, 0, none⟩ (.int .i64 0) = w1 := ⟨_, rfl⟩
    rw [hw1]
    have h1 : EvV w1 ba bl 0 l := by rw [← hw1]; exact HV.out.setA 0
    have s1 := step.out w ba (.int .i64 0) (.inl rfl) HBl0.out HSz0.out
    rw [hw1] at s1
    have S1 := Lib.hid s1
    have d0 := h1.ca
    have g0 := h1.fa
    have HV1 := Lib.hid h1
    clear h1 hw1 c0 c1 f0 s1
    go_upto_region 4 with (fail)
    obtain ⟨w2, hw2⟩ : ∃ w2, w1.setCell ⟨ba, 0, none⟩ (.int .i64 1) = w2 := ⟨_, rfl⟩
    rw [hw2]
    have h1 : EvV w2 ba bl 1 l := by rw [← hw2]; exact HV1.out.setA 1
    have s1 := step.out w1 ba (.int .i64 1) (.inl rfl) S1.out.1 S1.out.2
    rw [hw2] at s1
    have S2 := Lib.hid s1
    have d1 := h1.cl
    have g1 := h1.fl
    have HV2 := Lib.hid h1
    clear h1 hw2 d0 g0 s1
    go_upto_region 5 with (fail)
    obtain ⟨w3, hw3⟩ : ∃ w3, w2.setCell ⟨bl, 0, none⟩ (.int .i64 ((l : Int) - 1)) = w3 := ⟨_, rfl⟩
    rw [hw3]
    have el : ((l : Int) - 1) = ((l - 1 : Nat) : Int) := by omega
    have h1 : EvV w3 ba bl 1 (l - 1) := by rw [← hw3, el]; exact HV2.out.setL (l - 1)
    have s1 := step.out w2 bl (.int .i64 ((l : Int) - 1)) (.inr rfl) S2.out.1 S2.out.2
    rw [hw3] at s1
    have S3 := Lib.hid s1
    have d0 := h1.ca
    have HV3 := Lib.hid h1
    clear h1 hw3 d1 g1 s1 el
    go_wp2
    go_ret
    exact ⟨rfl, HV3.out, S3.out.1, S3.out.2⟩
  · rw [if_neg hr]
    have hrI : ¬ (l : Int) ≤ (a : Int) + 1 := by omega
    go_enter Tryd.func41, Tryd.ntmps41
    go_upto_region 4 with (fail)
    obtain ⟨w2, hw2⟩ : ∃ w2, w.setCell ⟨ba, 0, none⟩ (.int .i64 ((a : Int) + 1)) = w2 := ⟨_, rfl⟩
    rw [hw2]
    have h1 : EvV w2 ba bl (a + 1) l := by rw [← hw2]; exact HV.out.setA (a + 1)
    have s1 := step.out w ba (.int .i64 ((a : Int) + 1)) (.inl rfl) HBl0.out HSz0.out
    rw [hw2] at s1
    have S2 := Lib.hid s1
    have d1 := h1.cl
    have g1 := h1.fl
    have HV2 := Lib.hid h1
    clear h1 hw2 c0 c1 f0 s1
    go_upto_region 5 with (fail)
    obtain ⟨w3, hw3⟩ : ∃ w3, w2.setCell ⟨bl, 0, none⟩ (.int .i64 ((l : Int) - 1)) = w3 := ⟨_, rfl⟩
    rw [hw3]
    have el : ((l : Int) - 1) = ((l - 1 : Nat) : Int) := by omega
    have h1 : EvV w3 ba bl (a + 1) (l - 1) := by rw [← hw3, el]; exact HV2.out.setL (l - 1)
    have s1 := step.out w2 bl (.int .i64 ((l : Int) - 1)) (.inr rfl) S2.out.1 S2.out.2
    rw [hw3] at s1
    have S3 := Lib.hid s1
    have d0 := h1.ca
    have HV3 := Lib.hid h1
    clear h1 hw3 d1 g1 s1 el
    go_wp2
    go_ret
    exact ⟨ret_int (by omega), HV3.out, S3.out.1, S3.out.2⟩
theorem evenS_length : ∀ n l a : Nat, (evenS n l a).length = n
  | 0, _, _ => rfl
  | n + 1, l, a => by
    rw [evenS]
    simp only [List.length_cons]
    rw [evenS_length n]
/-- The memory of order's loop over Even's closure. -/
structure EvSt (B : Nat) (w wr : World) (ba bl M m j : Nat) (v : Value) (done : List Int) (a l : Nat) : Prop where
  row : (Kd.int .i64).R 3 wr w.heap.size (fun _ => True) v (done ++ List.replicate (M - j) 0)
  ev : EvV wr ba bl a l
  len : done.length = j
  eq : done ++ evenS (M - j) l a = evenS M m 0
  a1 : a ≤ 70000
  l1 : l + j = m
  bel : Below B w wr
theorem EvSt.step {B : Nat} {w wr w1 : World} {ba bl M m j : Nat} {done : List Int} {a l : Nat} (h : EvSt B w wr ba bl M m j (.slice (some ⟨w.heap.size, 0, none⟩) M M) done a l) (hj : j < M) (hb : ba < w.heap.size ∧ bl < w.heap.size) (hB : B ≤ w.heap.size) (hm : m ≤ 65537 ∧ M < m)
    (h1 : EvV w1 ba bl ((if l ≤ a + 1 then 0 else a) + 1) (l - 1)) (h2 : Below B wr w1) (h3 : w1.heap.size = wr.heap.size ∧ ∀ i, i ≠ ba → i ≠ bl → w1.heap[i]? = wr.heap[i]?) :
    (w1.cell? ⟨w.heap.size, j, none⟩ = some (.int .i64 0) ∧ w1.frozen? ⟨w.heap.size, j, none⟩ = false) ∧ EvSt B w (w1.setCell ⟨w.heap.size, j, none⟩ (.int .i64 ((if l ≤ a + 1 then 0 else a : Nat) : Int))) ba bl M m (j + 1) (.slice (some ⟨w.heap.size, 0, none⟩) M M) (done ++ [((if l ≤ a + 1 then 0 else a : Nat) : Int)]) ((if l ≤ a + 1 then 0 else a) + 1) (l - 1) := by
  have hR : (Kd.int .i64).R 3 w1 w.heap.size (fun _ => True) (.slice (some ⟨w.heap.size, 0, none⟩) M M) (done ++ List.replicate (M - j) 0) :=
    Kd.R_mono (Kd.R_step (Kd.R_bound h.row) (fun k hk hlt => h3.2 k (by have := hk.2.1; omega) (by have := hk.2.1; omega))) (fun _ _ => trivial)
  obtain ⟨hc, hf⟩ := Kd.R_celln (0 : Int) hR (j : Int) (by omega) (by simp; omega)
  rw [Int.toNat_natCast] at hc hf
  have hR2 := Kd.R_putn hR (j : Int) ((if l ≤ a + 1 then 0 else a : Nat) : Int)
  rw [Int.toNat_natCast] at hR2
  have hset : (done ++ List.replicate (M - j) (0 : Int)).set j ((if l ≤ a + 1 then 0 else a : Nat) : Int) = (done ++ [((if l ≤ a + 1 then 0 else a : Nat) : Int)]) ++ List.replicate (M - (j + 1)) 0 := by
    rw [show M - j = (M - (j + 1)) + 1 by omega, List.replicate_succ, List.set_append_right _ _ (by rw [h.len]; exact Nat.le_refl _), h.len]
    simp
  rw [hset] at hR2
  have hval : rdOf (0 : Int) (done ++ List.replicate (M - j) (0 : Int)) (j : Int) = 0 := by
    unfold rdOf
    rw [Int.toNat_natCast, List.getD_eq_getElem?_getD, List.getElem?_append_right (by rw [h.len]; exact Nat.le_refl _), h.len, Nat.sub_self]
    rw [show M - j = (M - (j + 1)) + 1 by omega, List.replicate_succ]
    rfl
  rw [hval] at hc
  refine ⟨⟨hc, hf⟩, hR2, ?_, by simp [h.len], ?_, ?_, ?_, ?_⟩
  · have hne : ∀ q, q < w.heap.size → (w1.setCell ⟨w.heap.size, j, none⟩ (.int .i64 ((if l ≤ a + 1 then 0 else a : Nat) : Int))).heap[q]? = w1.heap[q]? := fun q hq => Below.heap_setCell _ _ _ q (by show q ≠ w.heap.size; omega)
    exact h1.move (hne ba hb.1) (hne bl hb.2)
  · rw [← h.eq, show M - j = (M - (j + 1)) + 1 by omega, evenS, List.append_assoc]
    rfl
  · have := h.l1; have := h.a1
    split <;> omega
  · have := h.l1; omega
  · exact (h.bel.trans h2).setCell hB _
set_option maxHeartbeats 1000000 in
theorem orderE_calls (m ba bl B : Nat) (w : World) (hv : EvV w ba bl 0 m) (hb : ba < w.heap.size ∧ bl < w.heap.size) (hB : B ≤ ba ∧ B ≤ bl) (hm : 2 ≤ m ∧ m ≤ 65537) : Calls Tryd.prog 38 #[.int .i64 m, .func (.func 41) #[] #[.pointer (some ⟨ba, 0, none⟩), .pointer (some ⟨bl, 0, none⟩)]] w fun e w' => ∃ v, e = .returned v ∧ (Kd.int .i64).R 3 w' w.heap.size (fun _ => True) v (evenS (m - 1) m 0) ∧ Below B w w' := by
  obtain ⟨M, rfl⟩ : ∃ M : Nat, m = M + 1 := ⟨m - 1, by omega⟩
  have HV := Lib.hid hv
  have HBB := Lib.hid hB
  have HBb := Lib.hid hb
  clear hv hB
  have e1 : ((M + 1 : Nat) : Int) = (M : Int) + 1 := by omega
  rw [e1]
  clear e1
  go_enter Tryd.func38, Tryd.ntmps38
  go_upto_region 3 with (fail)
  have hmk : ∀ W : World, (Instr.makeSlice 22 (.int .i64 (M : Int)) (.int .i64 (M : Int))).run Tryd.prog W = .ok (.slice (some ⟨W.heap.size, 0, none⟩) M M) (W.alloc (.cells (madeCells #[.int .i64 0] M) 3)) := fun W =>
    print_make_of (P := Tryd.prog) 22 3 (.int .i64 0) 8 Tryd.underlying22 infoIntO rfl (by decide) M (by omega) W
  have hR0 : (Kd.int .i64).R 3 (w.alloc (.cells (madeCells #[.int .i64 0] M) 3)) w.heap.size (fun _ => True) (.slice (some ⟨w.heap.size, 0, none⟩) M M) (List.replicate M 0) := by
    have h := own_made_of' (enc := Value.int .i64) (d := (0 : Int)) w w.heap.size 3 M (Nat.le_refl _) (by omega)
    exact Kd.R_of_own (enc := Value.int .i64) (h1 := fun _ => rfl) h (fun _ _ => trivial)
  have hE0 : EvSt B w (w.alloc (.cells (madeCells #[.int .i64 0] M) 3)) ba bl M (M + 1) 0 (.slice (some ⟨w.heap.size, 0, none⟩) M M) [] 0 (M + 1) :=
    ⟨by simpa using hR0, HV.out.move (heap_alloc_old w _ HBb.out.1) (heap_alloc_old w _ HBb.out.2), rfl, rfl, by omega, rfl, (Below.refl B w).alloc (by have := HBB.out; omega) _⟩
  have HE0 := Lib.hid hE0
  clear hR0 hE0 hb
  go_wp2
  clear hmk
  go_loopw [18] (fun x wr => ∃ (j : Nat) (done : List Int) (a l : Nat), x = .int .i64 j ∧ j ≤ M ∧ Hid (EvSt B w wr ba bl M (M + 1) j (.slice (some ⟨w.heap.size, 0, none⟩) M M) done a l)) (fun x _ => M - (intOf x).toNat)
  case atStart => exact ⟨0, [], _, _, rfl, by omega, HE0⟩
  case round =>
    obtain ⟨j, done, a, l, rfl, hj, HS⟩ := hrel
    by_cases hlt : j < M
    · have HCl := Lib.hid (even1_calls (j : Int) ba bl a l B wr HS.out.ev (by have := HS.out.a1; omega) (by have := HS.out.l1; omega) HBB.out)
      go_wp2_with (fail)
      go_at_call 41
      refine HCl.out.mono ?_
      rintro e w1 ⟨rfl, h1, h2, h3, h4⟩
      obtain ⟨⟨hc, hf⟩, hN⟩ := HS.out.step hlt HBb.out (by have := HBB.out; have := HBb.out; omega) (by omega) h1 h2 ⟨h3, h4⟩
      have HN := Lib.hid hN
      obtain ⟨x, hx⟩ : ∃ x : Nat, (if l ≤ a + 1 then 0 else a) = x := ⟨_, rfl⟩
      rw [hx] at HN ⊢
      clear h1 h2 h3 h4 hN hx
      go_wp2
      go_roundw
      case rel => exact ⟨j + 1, _, _, _, by go_num, by omega, HN⟩
      case measure => simp [intOf]; omega
    · obtain rfl : j = M := by omega
      go_wp2
      go_ret
      refine ⟨_, rfl, ?_, HS.out.bel⟩
      have h1 := HS.out.row
      have h2 := HS.out.eq
      rw [Nat.sub_self] at h1 h2
      rw [Nat.add_sub_cancel, ← h2]
      simpa [evenS] using h1
/-- Left, Right, Even: their numbers. -/
def ordN (m : Int) (f : Nat → List Int) : List Int := if 2 ≤ m ∧ m ≤ 65537 then f m.toNat else []
def leftN (m : Nat) : List Int := List.replicate (m - 1) 0
def rightN (m : Nat) : List Int := (List.range (m - 1)).map (fun j : Nat => (m : Int) - 2 - (j : Int))
theorem left_calls (m : Int) (w : World) : Calls Tryd.prog 12 #[.int .i64 m] w fun e w' => ∃ v, e = .returned v ∧ (Kd.int .i64).R 3 w' w.heap.size (fun _ => True) v (ordN m leftN) ∧ Below w.heap.size w w' := by
  have HO := Lib.hid (orderL_calls m w)
  have HN : Hid ((if 2 ≤ m ∧ m ≤ 65537 then List.replicate (m - 1).toNat (0 : Int) else []) = ordN m leftN) := Lib.hid (by
    unfold ordN leftN
    split
    · rw [show (m - 1).toNat = m.toNat - 1 by omega]
    · rfl)
  rw [HN.out] at HO
  go_enter Tryd.func12, Tryd.ntmps12
  go_wp2_with (fail)
  go_at_call 38
  refine HO.out.mono ?_
  rintro e w1 ⟨v, rfl, hr, hb⟩
  have HR := Lib.hid hr
  have HB := Lib.hid hb
  clear hr hb
  go_wp2
  go_ret
  exact ⟨v, rfl, HR.out, HB.out⟩
theorem right_calls (m : Int) (w : World) : Calls Tryd.prog 13 #[.int .i64 m] w fun e w' => ∃ v, e = .returned v ∧ (Kd.int .i64).R 3 w' w.heap.size (fun _ => True) v (ordN m rightN) ∧ Below w.heap.size w w' := by
  have HN : Hid ((if 2 ≤ m ∧ m ≤ 65537 then (List.range (m - 1).toNat).map (fun j : Nat => m - 2 - (j : Int)) else []) = ordN m rightN) := Lib.hid (by
    unfold ordN rightN
    split
    · rw [show (m - 1).toNat = m.toNat - 1 by omega, show ((m.toNat : Nat) : Int) = m by omega]
    · rfl)
  have HO : Hid (Calls Tryd.prog 38 #[.int .i64 m, .func (.func 40) #[] #[.pointer (some ⟨w.heap.size, 0, none⟩)]] (w.alloc (.cells #[.int .i64 m] 3)) fun e w' => ∃ v, e = .returned v ∧ (Kd.int .i64).R 3 w' w.heap.size (fun _ => True) v (ordN m rightN) ∧ Below w.heap.size w w') := Lib.hid ((orderR_calls m w.heap.size (w.alloc (.cells #[.int .i64 m] 3)) (by simp [go_sem])).mono (by
    rintro e w' ⟨v, rfl, hr, hb⟩
    rw [HN.out] at hr
    have hb0 := below_alloc (Below.refl w.heap.size w) (.cells #[.int .i64 m] 3)
    exact ⟨v, rfl, Kd.R_lower hr (by simp), below_next hb0 hb⟩))
  go_enter Tryd.func13, Tryd.ntmps13
  go_wp2_with (fail)
  go_at_call 38
  refine HO.out.mono ?_
  rintro e w1 ⟨v, rfl, hr, hb⟩
  have HR := Lib.hid hr
  have HB := Lib.hid hb
  clear hr hb
  go_wp2
  go_ret
  exact ⟨v, rfl, HR.out, HB.out⟩
theorem order_no (m : Int) (F : Value) (h : ¬ (2 ≤ m ∧ m ≤ 65537)) (w : World) : Calls Tryd.prog 38 #[.int .i64 m, F] w fun e w' => e = .returned (.slice none 0 0) ∧ w' = w := by
  have hcase : m < 2 ∨ (¬ m < 2 ∧ 65537 < m) := by omega
  clear h
  rcases hcase with h2 | ⟨h2, h3⟩
  all_goals
    go_enter Tryd.func38, Tryd.ntmps38
    go_wp2
    go_ret
    exact ⟨rfl, rfl⟩
theorem even_calls (m : Int) (w : World) : Calls Tryd.prog 14 #[.int .i64 m] w fun e w' => ∃ v, e = .returned v ∧ (Kd.int .i64).R 3 w' w.heap.size (fun _ => True) v (ordN m evenR) ∧ Below w.heap.size w w' := by
  have HO : Hid (Calls Tryd.prog 38 #[.int .i64 m, .func (.func 41) #[] #[.pointer (some ⟨w.heap.size + 1, 0, none⟩), .pointer (some ⟨w.heap.size, 0, none⟩)]] ((w.alloc (.cells #[.int .i64 m] 3)).alloc (.cells #[.int .i64 0] 3)) fun e w' => ∃ v, e = .returned v ∧ (Kd.int .i64).R 3 w' w.heap.size (fun _ => True) v (ordN m evenR) ∧ Below w.heap.size w w') := Lib.hid (by
    obtain ⟨w2, hw2⟩ : ∃ w2, ((w.alloc (.cells #[.int .i64 m] 3)).alloc (.cells #[.int .i64 0] 3)) = w2 := ⟨_, rfl⟩
    have hb2 : Below w.heap.size w w2 := by rw [← hw2]; exact below_alloc (below_alloc (Below.refl _ _) _) _
    by_cases hm : 2 ≤ m ∧ m ≤ 65537
    · obtain ⟨M, rfl⟩ : ∃ M : Nat, m = (M : Int) := ⟨m.toNat, by omega⟩
      have hv : EvV w2 (w.heap.size + 1) w.heap.size 0 M := by
        rw [← hw2]
        exact ⟨by simp [go_sem], by simp [go_sem], by simp [go_sem], by simp [go_sem], by omega⟩
      have hsz : w2.heap.size = w.heap.size + 2 := by rw [← hw2]; simp
      rw [hw2]
      refine (orderE_calls M (w.heap.size + 1) w.heap.size w.heap.size w2 hv (by omega) (by omega) (by omega)).mono ?_
      rintro e w' ⟨v, rfl, hr, hb⟩
      refine ⟨v, rfl, ?_, hb2.trans hb⟩
      unfold ordN
      rw [if_pos hm, Int.toNat_natCast, ← even_is]
      exact Kd.R_lower hr (by omega)
    · rw [hw2]
      refine (order_no m _ hm w2).mono ?_
      rintro e w' ⟨rfl, rfl⟩
      refine ⟨_, rfl, ?_, hb2⟩
      unfold ordN
      rw [if_neg hm]
      exact Kd.R_nil _ _ _ _ _)
  go_enter Tryd.func14, Tryd.ntmps14
  go_wp2_with (fail)
  go_at_call 38
  refine HO.out.mono ?_
  rintro e w1 ⟨v, rfl, hr, hb⟩
  have HR := Lib.hid hr
  have HB := Lib.hid hb
  clear hr hb
  go_wp2
  go_ret
  exact ⟨v, rfl, HR.out, HB.out⟩
end Go.Proofs.YtcikcnkhcfhomaaDoor.Hand
/- PlanKnown's small functions and the closed facts of the chapter's examples. -/
namespace Go.Proofs.YtcikcnkhcfhomaaDoor.Hand
open Go.RowKit Go.Proofs.YtcikcnkhcfhomaaDoorW.PrintWords Go.Proofs.YtcikcnkhcfhomaaDoorW.PrintMore Go.Proofs.YtcikcnkhcfhomaaDoor.Math

/-- The digits, quick for the small. -/
def dgF (m : Nat) : List UInt8 := if m < 10 then [UInt8.ofNat (48 + m)] else Lib.decDigits m
theorem dgF_is (m : Nat) : Lib.decDigits m = dgF m := by
  unfold dgF
  split
  · rename_i h
    rw [Lib.decDigits, dif_pos h]
  · rfl
def matchG (t : List UInt8) : Nat → List UInt8 → Bool × Nat
  | i, [] => (true, i)
  | i, d :: ds => if t[i]? = some d then matchG t (i + 1) ds else (false, i)
theorem matchG_is (t : List UInt8) : ∀ (i : Nat) (l : List UInt8), matchF t i l = matchG t i l
  | _, [] => rfl
  | i, d :: ds => by
    rw [matchF, matchG, matchG_is t (i + 1) ds]
def partG (t : List UInt8) : Nat → Nat → Nat → Nat → List Nat → Bool × Nat × Nat × List Nat
  | 0, _, i, m, o => (false, i, m, o)
  | f + 1, p, i, m, o =>
    if t[i]? = some 40 then
      (let s1 := partG t f p (i + 1) m o
       if s1.1 = true then
         (if t[s1.2.1]? = some 32 then
           (let s2 := partG t f (p + 1) (s1.2.1 + 1) s1.2.2.1 s1.2.2.2
            if s2.1 = true then
              (if t[s2.2.1]? = some 41 then (true, s2.2.1 + 1, s2.2.2.1, s2.2.2.2 ++ [p]) else (false, s2.2.1, s2.2.2.1, s2.2.2.2))
            else (false, s2.2.1, s2.2.2.1, s2.2.2.2))
         else (false, s1.2.1, s1.2.2.1, s1.2.2.2))
       else (false, s1.2.1, s1.2.2.1, s1.2.2.2))
    else if (matchG t i (dgF m)).1 = true then (true, (matchG t i (dgF m)).2, m + 1, o) else (false, (matchG t i (dgF m)).2, m, o)
theorem partG_is (t : List UInt8) : ∀ (f p i m : Nat) (o : List Nat), partF t f p i m o = partG t f p i m o
  | 0, _, _, _, _ => rfl
  | f + 1, p, i, m, o => by
    rw [partF, partG, partG_is t f p (i + 1) m o, dgF_is m, matchG_is]
    simp only [partG_is t f]
def readG (t : List UInt8) : Bool × Nat × List Nat :=
  if (partG t (t.length + 1) 0 0 0 []).1 = true then (if (partG t (t.length + 1) 0 0 0 []).2.1 < t.length then (false, (partG t (t.length + 1) 0 0 0 []).2.1, []) else (true, (partG t (t.length + 1) 0 0 0 []).2.2.1, (partG t (t.length + 1) 0 0 0 []).2.2.2)) else (false, (partG t (t.length + 1) 0 0 0 []).2.1, [])
theorem rdR_ok {s : ByteArray} {m : Nat} {o : List Nat} (h : readG s.data.toList = (true, m, o)) (hz : ¬ 1048576 < s.size) : rdR s = some (.ok m o) := by
  unfold rdR
  rw [if_neg hz]
  show some (if (partF s.data.toList (s.data.toList.length + 1) 0 0 0 []).1 = true then (if (partF s.data.toList (s.data.toList.length + 1) 0 0 0 []).2.1 < s.data.toList.length then Res.bad (partF s.data.toList (s.data.toList.length + 1) 0 0 0 []).2.1 else .ok (partF s.data.toList (s.data.toList.length + 1) 0 0 0 []).2.2.1 (partF s.data.toList (s.data.toList.length + 1) 0 0 0 []).2.2.2) else .bad (partF s.data.toList (s.data.toList.length + 1) 0 0 0 []).2.1) = _
  unfold readG at h
  simp only [partG_is]
  split at h
  · rename_i h1
    rw [if_pos h1]
    split at h
    · simp at h
    · rename_i h2
      rw [if_neg h2]
      simp only [Prod.mk.injEq, true_and] at h
      rw [h.1, h.2]
  · simp at h
theorem rdR_bad {s : ByteArray} {i : Nat} (h : readG s.data.toList = (false, i, [])) (hz : ¬ 1048576 < s.size) : rdR s = some (.bad i) := by
  unfold rdR
  rw [if_neg hz]
  show some (if (partF s.data.toList (s.data.toList.length + 1) 0 0 0 []).1 = true then (if (partF s.data.toList (s.data.toList.length + 1) 0 0 0 []).2.1 < s.data.toList.length then Res.bad (partF s.data.toList (s.data.toList.length + 1) 0 0 0 []).2.1 else .ok (partF s.data.toList (s.data.toList.length + 1) 0 0 0 []).2.2.1 (partF s.data.toList (s.data.toList.length + 1) 0 0 0 []).2.2.2) else .bad (partF s.data.toList (s.data.toList.length + 1) 0 0 0 []).2.1) = _
  unfold readG at h
  simp only [partG_is]
  split at h
  · rename_i h1
    rw [if_pos h1]
    split at h
    · rename_i h2
      rw [if_pos h2]
      simp only [Prod.mk.injEq, true_and, and_true] at h
      rw [h]
    · simp at h
  · rename_i h1
    rw [if_neg h1]
    simp only [Prod.mk.injEq, true_and, and_true] at h
    rw [h]
theorem rd1 : rdR (⟨#[40, 40, 48, 32, 40, 49, 32, 50, 41, 41, 32, 51, 41]⟩ : ByteArray) = some (.ok 4 [1, 0, 0]) := rdR_ok (by decide) (by decide)
theorem rd2 : rdR (⟨#[48]⟩ : ByteArray) = some (.ok 1 []) := rdR_ok (by decide) (by decide)
theorem rd3 : rdR (⟨#[40, 48, 32, 40, 49, 32, 50, 41, 41]⟩ : ByteArray) = some (.ok 3 [1, 0]) := rdR_ok (by decide) (by decide)
theorem rb1 : rdR (⟨#[40, 48, 32, 50, 41]⟩ : ByteArray) = some (.bad 3) := rdR_bad (by decide) (by decide)
theorem rb2 : rdR (⟨#[40, 48, 32, 49]⟩ : ByteArray) = some (.bad 4) := rdR_bad (by decide) (by decide)
theorem rb3 : rdR (⟨#[40, 48, 41]⟩ : ByteArray) = some (.bad 2) := rdR_bad (by decide) (by decide)
theorem rb4 : rdR (⟨#[49]⟩ : ByteArray) = some (.bad 0) := rdR_bad (by decide) (by decide)
theorem rb5 : rdR (⟨#[]⟩ : ByteArray) = some (.bad 0) := rdR_bad (by decide) (by decide)
theorem rb6 : rdR (⟨#[48, 32]⟩ : ByteArray) = some (.bad 1) := rdR_bad (by decide) (by decide)
theorem rb7 : rdR (⟨#[40, 48, 32, 32, 49, 41]⟩ : ByteArray) = some (.bad 3) := rdR_bad (by decide) (by decide)
theorem rb8 : rdR (⟨#[40, 40, 48, 32, 49, 41, 32, 50]⟩ : ByteArray) = some (.bad 8) := rdR_bad (by decide) (by decide)
theorem rd_ok {s : ByteArray} {m : Nat} {o : List Nat} (h : rdR s = some (.ok m o)) : rdM s = m ∧ rdO s = oI o ∧ rdE s = 0 ∧ rdP s = -1 := by
  unfold rdM rdO rdE rdP
  rw [h]
  exact ⟨rfl, rfl, rfl, rfl⟩
theorem rd_bad {s : ByteArray} {i : Nat} (h : rdR s = some (.bad i)) : rdM s = 0 ∧ rdO s = [] ∧ rdE s = 2 ∧ rdP s = (i : Int) := by
  unfold rdM rdO rdE rdP
  rw [h]
  exact ⟨rfl, rfl, rfl, rfl⟩
theorem rd_err {s : ByteArray} (h : rdE s ≠ 0) : rdM s = 0 ∧ rdO s = [] := by
  unfold rdM rdO
  unfold rdE at h
  cases hr : rdR s with
  | none => exact ⟨rfl, rfl⟩
  | some r =>
    cases r with
    | bad i => exact ⟨rfl, rfl⟩
    | ok m o => rw [hr] at h; exact absurd rfl h
theorem left_ok (m : Nat) (h : 1 ≤ m ∧ m ≤ 65537) : ordE (m : Int) (leftN m) = 0 := by
  unfold ordE leftN
  rw [if_neg (by omega), if_neg (by rw [List.length_replicate]; omega), if_pos]
  intro j hj
  rw [List.length_replicate] at hj
  rw [List.getD_eq_getElem?_getD, List.getElem?_replicate, if_pos hj]
  simp only [Option.getD_some]
  omega
theorem left_many : textE 4097 (leftN 4097) = 1 := by
  unfold textE
  rw [if_pos (show ordE (4097 : Int) (leftN 4097) = 0 from left_ok 4097 (by decide)), if_neg (by decide)]
theorem left_fit : textE 4096 (leftN 4096) = 0 := by
  unfold textE
  rw [if_pos (show ordE (4096 : Int) (leftN 4096) = 0 from left_ok 4096 (by decide)), if_pos (by decide)]
theorem text_one : textR 1 [] = (⟨#[48]⟩ : ByteArray) ∧ textE 1 [] = 0 := by
  have h0 : ordE 1 [] = 0 := by decide
  constructor
  · unfold textR
    rw [if_pos ⟨h0, by decide⟩]
    show txtF [] decB 0 = _
    rw [txtF, dec1 0 (by decide)]
    rfl
  · unfold textE
    rw [if_pos h0, if_pos (by decide)]
set_option maxRecDepth 20000 in
theorem lcut_calls (n : Int) (A : Option Addr) (c : Nat) (l : List Int) (w : World) (Ae : Nat → Addr) (hE : Errs w Ae) (hr : Kd.C (Kd.int .i64) w A l.length l) (hl : l.length ≤ 17592186044415) :
    Calls Tryd.prog 33 #[.int .i64 n, .slice A l.length c] w fun e w' => e = .returned (.int .i64 (cutE n l : Nat)) ∧ Below w.heap.size w w' := by
  have HC := Lib.hid (cutX_calls n A c l w Ae (hE.someL _ (by decide)) hr hl)
  have HE := Lib.hid hE
  clear hE hr hl
  go_enter Tryd.func33, Tryd.ntmps33
  go_upto_region 2 with (go_at_call 21; refine HC.out.mono ?_; rintro e w1 ⟨v, ev, rfl, -, hev, hb⟩; have HV := Lib.hid hev; have HB1 := Lib.hid hb; clear hev hb)
  go_wp2_with (go_at_call 23; refine (kind_calls (HE.out.below HB1.out) HV.out).mono ?_; rintro e w2 ⟨rfl, hb2⟩; have HB2 := Lib.hid (below_next HB1.out hb2); clear hb2)
  go_ret
  exact ⟨rfl, HB2.out⟩
set_option maxRecDepth 20000 in
theorem ljoins_calls (n : Int) (A : Option Addr) (c : Nat) (l : List Int) (w : World) (Ae : Nat → Addr) (hE : Errs w Ae) (hr : Kd.C (Kd.int .i64) w A l.length l) (hm : -9223372036854775808 ≤ n ∧ n ≤ 9223372036854775807) (hl : l.length ≤ 17592186044415) :
    Calls Tryd.prog 34 #[.int .i64 n, .slice A l.length c] w fun e w' => e = .returned (.int .i64 (ordE n l : Nat)) ∧ Below w.heap.size w w' := by
  have HC := Lib.hid (joinsX_calls n A c l w Ae (hE.someL _ (by decide)) hr hm hl)
  have HE := Lib.hid hE
  clear hE hr hl hm
  go_enter Tryd.func34, Tryd.ntmps34
  go_upto_region 2 with (go_at_call 10; refine HC.out.mono ?_; rintro e w1 ⟨v, ev, rfl, -, hev, hb⟩; have HV := Lib.hid hev; have HB1 := Lib.hid hb; clear hev hb)
  go_wp2_with (go_at_call 23; refine (kind_calls (HE.out.below HB1.out) HV.out).mono ?_; rintro e w2 ⟨rfl, hb2⟩; have HB2 := Lib.hid (below_next HB1.out hb2); clear hb2)
  go_ret
  exact ⟨rfl, HB2.out⟩
theorem blkK {g : Nat} {o : Obj} {w w' : World} (h : w.heap[g]? = some o) (hb : Below w.heap.size w w') : w'.heap[g]? = some o := (hb.block g (Array.getElem?_eq_some_iff.1 h).1).trans h
theorem wr_fin {w3 : World} {b : Nat} {x y : Int} (q0 : w3.cell? ⟨b, 0, none⟩ = some (.int .i64 0)) (q1 : w3.cell? ⟨b, 1, none⟩ = some (.int .i64 0)) :
    ((w3.setCell ⟨b, 0, none⟩ (.int .i64 x)).setCell ⟨b, 1, none⟩ (.int .i64 y)).cell? ⟨b, 0, none⟩ = some (.int .i64 x) ∧ ((w3.setCell ⟨b, 0, none⟩ (.int .i64 x)).setCell ⟨b, 1, none⟩ (.int .i64 y)).cell? ⟨b, 1, none⟩ = some (.int .i64 y) := by
  constructor
  · rw [World.cell?_setCell_other _ _ _ _ (by intro e; injection e with _ e; omega)]
    exact World.cell?_setCell_same _ _ _ q0
  · refine World.cell?_setCell_same (u := .int .i64 0) _ _ _ ?_
    rw [World.cell?_setCell_other _ _ _ _ (by intro e; injection e with _ e; omega)]; exact q1
set_option maxHeartbeats 1000000 in
set_option maxRecDepth 20000 in
theorem lwrong_calls (txt : ByteArray) (w : World) (Ae : Nat → Addr) (hE : Errs w Ae) (hP : Pow10 w) (hT : ErrTy w) :
    Calls Tryd.prog 35 #[.string txt] w fun e w' => e = .returned (.agg #[.int .i64 (rdE txt : Nat), .int .i64 (rdP txt)]) ∧ Below w.heap.size w w' := by
  obtain ⟨w0, hw0⟩ : ∃ w0, w.alloc (.cells #[.int .i64 0, .int .i64 0] 44) = w0 := ⟨_, rfl⟩
  have hk0 : w0.heap[w.heap.size]? = some (.cells #[.int .i64 0, .int .i64 0] 44 (0, 0)) := by rw [← hw0]; exact Array.getElem?_push_size
  have hb0 : Below w.heap.size w w0 := by rw [← hw0]; exact below_alloc (Below.refl _ _) _
  have hs0 : w.heap.size < w0.heap.size := by rw [← hw0]; simp [go_sem]
  have HK0 := Lib.hid hk0
  have HB0 := Lib.hid hb0
  have HS0 := Lib.hid hs0
  have HRd := Lib.hid (read_calls txt w0 Ae ((hE.below hb0).someL _ (by decide)) (hP.below hb0))
  have HE := Lib.hid hE
  have HTy := Lib.hid hT
  have HQP := Lib.hid (rdQP txt)
  have HX := Lib.hid (@rd_err txt)
  obtain ⟨M, hM⟩ : ∃ M, rdM txt = M := ⟨_, rfl⟩
  obtain ⟨L, hL⟩ : ∃ L, rdO txt = L := ⟨_, rfl⟩
  obtain ⟨K, hK⟩ : ∃ K, rdE txt = K := ⟨_, rfl⟩
  obtain ⟨P, hPp⟩ : ∃ P, rdP txt = P := ⟨_, rfl⟩
  rw [hM, hL, hK] at HRd
  rw [hM, hL, hK] at HX
  rw [hPp] at HQP
  rw [hK, hPp]
  clear hk0 hb0 hs0 hE hP hT hM hL hK hPp
  go_enter Tryd.func35, Tryd.ntmps35
  go_upto_region 1 with (fail)
  go_upto_region 2 with (go_at_call 30; refine HRd.out.mono ?_; rintro e w1 ⟨v, ev, rfl, ho, hev, hb⟩; have HO := Lib.hid ho; have HV := Lib.hid hev; have HB1 := Lib.hid (below_next HB0.out hb); have HK1 := Lib.hid (blkK HK0.out hb); have hs1 := hb.size; clear ho hev hb)
  have HS1 : Hid (w.heap.size < w1.heap.size) := Lib.hid (by have := HS0.out; omega)
  clear hs1
  obtain ⟨A, c, rfl, -, -⟩ := RC_hd HO.out
  have hfin : ∀ w3, Below w1.heap.size w1 w3 → Below w.heap.size w w3 ∧ w3.heap[w.heap.size]? = some (.cells #[.int .i64 0, .int .i64 0] 44 (0, 0)) := fun w3 hb => ⟨below_next HB1.out hb, blkK HK1.out hb⟩
  have HFin := Lib.hid hfin
  clear hfin
  clear hw0
  clear HK1 HK0 HB0 HRd HS0
  rcases HV.out.nil_iff with ⟨rfl, rfl⟩ | ⟨h0, t, u, rfl⟩
  · clear HX
    (go_upto_region 4 with (fail)
     go_wp2_with (first
      | (go_at_call 32; refine (placeV (HV.out.below HB2.out) (HTy.out.below (below_next HB1.out HB2.out)) HQP.out).mono ?_; rintro e w3 ⟨rfl, hb⟩; have HB3 := Lib.hid (below_next HB2.out hb); clear hb; obtain ⟨hbf, hkf⟩ := HFin.out w3 HB3.out; have HBf := Lib.hid hbf; have q0 : w3.cell? ⟨w.heap.size, 0, none⟩ = some (.int .i64 0) := (by simp [World.cell?, hkf]); have q1 : w3.cell? ⟨w.heap.size, 1, none⟩ = some (.int .i64 0) := (by simp [World.cell?, hkf]); have q3 : ∀ j, w3.frozen? ⟨w.heap.size, j, none⟩ = false := (fun j => by simp [World.frozen?, hkf]); have q30 := q3 0; have q31 := q3 1; clear q3 hbf hkf)
      | (go_at_call 23; refine (kind_calls (HE.out.below HB1.out) HV.out).mono ?_; rintro e w2 ⟨rfl, hb⟩; have HB2 := Lib.hid hb; clear hb))
     obtain ⟨g0, g1⟩ := wr_fin (x := (0 : Int)) (y := P) q0 q1
     have hbE := (HBf.out.setCell (p := ⟨w.heap.size, 0, none⟩) (by simp) (.int .i64 (0 : Int))).setCell (p := ⟨w.heap.size, 1, none⟩) (by simp) (.int .i64 P)
     exact bodyPost_ret (v := .agg #[.int .i64 (0 : Int), .int .i64 P]) (by simp [results, Tryd.results35, go_sem, g0, g1]) rfl ⟨rfl, hbE⟩)
  · obtain ⟨rfl, rfl⟩ := HX.out (by omega)
    clear h0 HX
    (go_upto_region 4 with (fail)
     go_wp2_with (first
      | (go_at_call 32; refine (placeV (HV.out.below HB2.out) (HTy.out.below (below_next HB1.out HB2.out)) HQP.out).mono ?_; rintro e w3 ⟨rfl, hb⟩; have HB3 := Lib.hid (below_next HB2.out hb); clear hb; obtain ⟨hbf, hkf⟩ := HFin.out w3 HB3.out; have HBf := Lib.hid hbf; have q0 : w3.cell? ⟨w.heap.size, 0, none⟩ = some (.int .i64 0) := (by simp [World.cell?, hkf]); have q1 : w3.cell? ⟨w.heap.size, 1, none⟩ = some (.int .i64 0) := (by simp [World.cell?, hkf]); have q3 : ∀ j, w3.frozen? ⟨w.heap.size, j, none⟩ = false := (fun j => by simp [World.frozen?, hkf]); have q30 := q3 0; have q31 := q3 1; clear q3 hbf hkf)
      | (go_at_call 23; refine (kind_calls (HE.out.below HB1.out) HV.out).mono ?_; rintro e w2 ⟨rfl, hb⟩; have HB2 := Lib.hid hb; clear hb))
     obtain ⟨g0, g1⟩ := wr_fin (x := (K : Int)) (y := P) q0 q1
     have hbE := (HBf.out.setCell (p := ⟨w.heap.size, 0, none⟩) (by simp) (.int .i64 (K : Int))).setCell (p := ⟨w.heap.size, 1, none⟩) (by simp) (.int .i64 P)
     exact bodyPost_ret (v := .agg #[.int .i64 (K : Int), .int .i64 P]) (by simp [results, Tryd.results35, go_sem, g0, g1]) rfl ⟨rfl, hbE⟩)
end Go.Proofs.YtcikcnkhcfhomaaDoor.Hand
/- PlanKnown: the chapter's examples. -/
namespace Go.Proofs.YtcikcnkhcfhomaaDoor.Hand
open Go.RowKit Go.Proofs.YtcikcnkhcfhomaaDoorW.PrintWords Go.Proofs.YtcikcnkhcfhomaaDoorW.PrintMore Go.Proofs.YtcikcnkhcfhomaaDoor.Math

theorem eqe2 (a0 a1 b0 b1 : Int) (w : World) : (binOp .eql 44 (.agg #[.int .i64 a0, .int .i64 a1]) (.agg #[.int .i64 b0, .int .i64 b1])).run Tryd.prog w = .ok (.bool (a0 == b0 && a1 == b1)) w := by
  rw [run_eql_struct, eq2 9998]; rfl
theorem nilC (w : World) : Kd.C (Kd.int .i64) w none ([] : List Int).length [] := ⟨rfl, by decide, fun h => absurd h (by decide)⟩
theorem cutK {w : World} {Ae : Nat → Addr} (hE : Errs w Ae) (n k : Int) (h : ((cutE n [] : Nat) : Int) = k) (W : World) (hW : Below w.heap.size w W) :
    Calls Tryd.prog 33 #[.int .i64 n, .slice none 0 0] W fun e w' => e = .returned (.int .i64 k) ∧ Below W.heap.size W w' := by
  rw [← h]
  exact lcut_calls n none 0 [] W Ae (hE.below hW) (nilC W) (by decide)
theorem cutLit {w : World} {Ae : Nat → Addr} (hE : Errs w Ae) (n k : Int) (xs : List Int) (hx : xs.length ≤ 1000) (h : ((cutE n xs : Nat) : Int) = k) (W : World) (b : Nat) (hW : Below w.heap.size w W) (hb : W.heap.size = b) :
    Calls Tryd.prog 33 #[.int .i64 n, .slice (some ⟨b, 0, none⟩) xs.length xs.length] (W.alloc (.cells (xs.map (Value.int .i64)).toArray 3)) fun e w' => e = .returned (.int .i64 k) ∧ Below W.heap.size W w' := by
  subst hb
  rw [← h]
  refine (lcut_calls n (some ⟨W.heap.size, 0, none⟩) xs.length xs _ Ae (hE.below (below_alloc hW _)) (litI xs W hx) (by omega)).mono ?_
  rintro e w' ⟨rfl, hb⟩
  exact ⟨rfl, below_next (below_alloc (Below.refl _ _) _) hb⟩
theorem joinK {w : World} {Ae : Nat → Addr} (hE : Errs w Ae) (n k : Int) (hm : -9223372036854775808 ≤ n ∧ n ≤ 9223372036854775807) (h : ((ordE n [] : Nat) : Int) = k) (W : World) (hW : Below w.heap.size w W) :
    Calls Tryd.prog 34 #[.int .i64 n, .slice none 0 0] W fun e w' => e = .returned (.int .i64 k) ∧ Below W.heap.size W w' := by
  rw [← h]
  exact ljoins_calls n none 0 [] W Ae (hE.below hW) (nilC W) hm (by decide)
theorem joinLit {w : World} {Ae : Nat → Addr} (hE : Errs w Ae) (n k : Int) (xs : List Int) (hx : xs.length ≤ 1000) (hm : -9223372036854775808 ≤ n ∧ n ≤ 9223372036854775807) (h : ((ordE n xs : Nat) : Int) = k) (W : World) (b : Nat) (hW : Below w.heap.size w W) (hb : W.heap.size = b) :
    Calls Tryd.prog 34 #[.int .i64 n, .slice (some ⟨b, 0, none⟩) xs.length xs.length] (W.alloc (.cells (xs.map (Value.int .i64)).toArray 3)) fun e w' => e = .returned (.int .i64 k) ∧ Below W.heap.size W w' := by
  subst hb
  rw [← h]
  refine (ljoins_calls n (some ⟨W.heap.size, 0, none⟩) xs.length xs _ Ae (hE.below (below_alloc hW _)) (litI xs W hx) hm (by omega)).mono ?_
  rintro e w' ⟨rfl, hb⟩
  exact ⟨rfl, below_next (below_alloc (Below.refl _ _) _) hb⟩
theorem readOK {w : World} {Ae : Nat → Addr} (hE : Errs w Ae) (hP : Pow10 w) {txt : ByteArray} {m : Nat} {o : List Nat} (h : rdR txt = some (.ok m o)) (W : World) (hW : Below w.heap.size w W) :
    Calls Tryd.prog 30 #[.string txt] W fun e w' => ∃ A c, e = .returned (.tuple #[.int .i64 (m : Nat), .slice A (oI o).length c, .nilIface]) ∧ Kd.C (Kd.int .i64) w' A (oI o).length (oI o) ∧ Below W.heap.size W w' := by
  obtain ⟨h1, h2, h3, -⟩ := rd_ok h
  refine (read_calls txt W Ae ((hE.below hW).someL _ (by decide)) (hP.below hW)).mono ?_
  rintro e w' ⟨v, ev, rfl, ho, hev, hb⟩
  rw [h2] at ho
  rw [h3] at hev
  obtain ⟨A, c, rfl, -, hC⟩ := ho.reads
  rcases hev.nil_iff with ⟨-, rfl⟩ | ⟨h0, -⟩
  · rw [h1]
    exact ⟨A, c, rfl, hC, hb⟩
  · omega
theorem wrongK {w : World} {Ae : Nat → Addr} (hE : Errs w Ae) (hP : Pow10 w) (hT : ErrTy w) (txt : ByteArray) (x y : Int) (h : ((rdE txt : Nat) : Int) = x ∧ rdP txt = y) (W : World) (hW : Below w.heap.size w W) :
    Calls Tryd.prog 35 #[.string txt] W fun e w' => e = .returned (.agg #[.int .i64 x, .int .i64 y]) ∧ Below W.heap.size W w' := by
  rw [← h.1, ← h.2]
  exact lwrong_calls txt W Ae (hE.below hW) (hP.below hW) (hT.below hW)
theorem intsLit {w : World} {A : Option Addr} (c : Nat) (xs : List Int) (hx : xs.length ≤ 1000) (hC : Kd.C (Kd.int .i64) w A xs.length xs) (W : World) (b : Nat) (hW : Below w.heap.size w W) (hb : W.heap.size = b) :
    Calls Tryd.prog 18 #[.slice A xs.length c, .slice (some ⟨b, 0, none⟩) xs.length xs.length] (W.alloc (.cells (xs.map (Value.int .i64)).toArray 3)) fun e w' => e = .returned (.bool true) ∧ Below W.heap.size W w' := by
  subst hb
  have := ints_calls A (some ⟨W.heap.size, 0, none⟩) c xs.length xs xs _ (Kd.C_below hC (below_alloc hW _)) (litI xs W hx)
  rw [decide_eq_true rfl] at this
  refine Quiet.mono this ?_
  rintro e w' ⟨rfl, n, rfl⟩
  exact ⟨rfl, pw_below_drewN (below_alloc (Below.refl _ _) _) n⟩
theorem lleft (m : Int) (l : List Int) (k : Nat) (hl : ordN m leftN = l) (hk : l.length = k) (W : World) : Calls Tryd.prog 12 #[.int .i64 m] W fun e w' => ∃ A c, e = .returned (.slice A k c) ∧ Kd.C (Kd.int .i64) w' A k l ∧ Below W.heap.size W w' := by
  subst hl hk
  refine (left_calls m W).mono ?_
  rintro e w' ⟨v, rfl, hR, hb⟩
  obtain ⟨A, c, rfl⟩ := Kd.R_slice hR
  exact ⟨A, c, rfl, (Kd.R_reads' hR).2.2, hb⟩
theorem lright (m : Int) (l : List Int) (k : Nat) (hl : ordN m rightN = l) (hk : l.length = k) (W : World) : Calls Tryd.prog 13 #[.int .i64 m] W fun e w' => ∃ A c, e = .returned (.slice A k c) ∧ Kd.C (Kd.int .i64) w' A k l ∧ Below W.heap.size W w' := by
  subst hl hk
  refine (right_calls m W).mono ?_
  rintro e w' ⟨v, rfl, hR, hb⟩
  obtain ⟨A, c, rfl⟩ := Kd.R_slice hR
  exact ⟨A, c, rfl, (Kd.R_reads' hR).2.2, hb⟩
theorem leven (m : Int) (l : List Int) (k : Nat) (hl : ordN m evenR = l) (hk : l.length = k) (W : World) : Calls Tryd.prog 14 #[.int .i64 m] W fun e w' => ∃ A c, e = .returned (.slice A k c) ∧ Kd.C (Kd.int .i64) w' A k l ∧ Below W.heap.size W w' := by
  subst hl hk
  refine (even_calls m W).mono ?_
  rintro e w' ⟨v, rfl, hR, hb⟩
  obtain ⟨A, c, rfl⟩ := Kd.R_slice hR
  exact ⟨A, c, rfl, (Kd.R_reads' hR).2.2, hb⟩
theorem even5 : ordN 5 evenR = [0, 1, 0, 0] := by
  show evenR 5 = _
  rw [evenR, dif_pos (by decide)]
  show _ ++ evenR 3 = _
  rw [evenR, dif_pos (by decide)]
  show _ ++ (_ ++ evenR 2) = _
  rw [evenR, dif_pos (by decide)]
  show _ ++ (_ ++ (_ ++ evenR 1)) = _
  rw [evenR, dif_neg (by decide)]
  rfl
set_option maxHeartbeats 4000000 in
set_option maxRecDepth 100000 in
theorem planKnown_walk {w : World} (hE : ∃ Ae, Errs w Ae) (hP : Pow10 w) (hT : ErrTy w) :
    Calls Tryd.prog 9 #[] w fun e w' => e = .returned (.bool true) ∧ Below w.heap.size w w' := by
  obtain ⟨Ae, hE⟩ := hE
  have HAw : Hid (∀ W, Below w.heap.size w W → Calls Tryd.prog 11 #[] W fun e w' => e = .returned (.bool true) ∧ Below W.heap.size W w') := Lib.hid (fun W hW => awake_calls W Ae ((hE.below hW).someL _ (by decide)))
  have C0 : Hid (∀ W, Below w.heap.size w W → Calls Tryd.prog 33 #[.int .i64 5, .slice none 0 0] W fun e w' => e = .returned (.int .i64 0) ∧ Below W.heap.size W w') := Lib.hid (cutK hE 5 0 (by decide))
  have C1 : Hid (∀ (W : World) (b : Nat), Below w.heap.size w W → W.heap.size = b → Calls Tryd.prog 33 #[.int .i64 5, .slice (some ⟨b, 0, none⟩) 2 2] (W.alloc (.cells #[.int .i64 3, .int .i64 2] 3)) fun e w' => e = .returned (.int .i64 8) ∧ Below W.heap.size W w') := Lib.hid (cutLit hE 5 8 [3, 2] (by decide) (by decide))
  have C2 : Hid (∀ (W : World) (b : Nat), Below w.heap.size w W → W.heap.size = b → Calls Tryd.prog 33 #[.int .i64 5, .slice (some ⟨b, 0, none⟩) 1 1] (W.alloc (.cells #[.int .i64 6] 3)) fun e w' => e = .returned (.int .i64 8) ∧ Below W.heap.size W w') := Lib.hid (cutLit hE 5 8 [6] (by decide) (by decide))
  have C3 : Hid (∀ W, Below w.heap.size w W → Calls Tryd.prog 33 #[.int .i64 (-1), .slice none 0 0] W fun e w' => e = .returned (.int .i64 1) ∧ Below W.heap.size W w') := Lib.hid (cutK hE (-1) 1 (by decide))
  have C4 : Hid (∀ W, Below w.heap.size w W → Calls Tryd.prog 33 #[.int .i64 65537, .slice none 0 0] W fun e w' => e = .returned (.int .i64 1) ∧ Below W.heap.size W w') := Lib.hid (cutK hE 65537 1 (by decide))
  have C5 : Hid (∀ W, Below w.heap.size w W → Calls Tryd.prog 33 #[.int .i64 65536, .slice none 0 0] W fun e w' => e = .returned (.int .i64 0) ∧ Below W.heap.size W w') := Lib.hid (cutK hE 65536 0 (by decide))
  have J0 : Hid (∀ (W : World) (b : Nat), Below w.heap.size w W → W.heap.size = b → Calls Tryd.prog 34 #[.int .i64 4, .slice (some ⟨b, 0, none⟩) 2 2] (W.alloc (.cells #[.int .i64 0, .int .i64 0] 3)) fun e w' => e = .returned (.int .i64 9) ∧ Below W.heap.size W w') := Lib.hid (joinLit hE 4 9 [0, 0] (by decide) (by decide) (by decide))
  have J1 : Hid (∀ (W : World) (b : Nat), Below w.heap.size w W → W.heap.size = b → Calls Tryd.prog 34 #[.int .i64 4, .slice (some ⟨b, 0, none⟩) 3 3] (W.alloc (.cells #[.int .i64 0, .int .i64 2, .int .i64 0] 3)) fun e w' => e = .returned (.int .i64 9) ∧ Below W.heap.size W w') := Lib.hid (joinLit hE 4 9 [0, 2, 0] (by decide) (by decide) (by decide))
  have J2 : Hid (∀ W, Below w.heap.size w W → Calls Tryd.prog 34 #[.int .i64 1, .slice none 0 0] W fun e w' => e = .returned (.int .i64 0) ∧ Below W.heap.size W w') := Lib.hid (joinK hE 1 0 (by decide) (by decide))
  have J3 : Hid (∀ W, Below w.heap.size w W → Calls Tryd.prog 34 #[.int .i64 0, .slice none 0 0] W fun e w' => e = .returned (.int .i64 1) ∧ Below W.heap.size W w') := Lib.hid (joinK hE 0 1 (by decide) (by decide))
  have J4 : Hid (∀ W, Below w.heap.size w W → Calls Tryd.prog 34 #[.int .i64 65538, .slice none 0 0] W fun e w' => e = .returned (.int .i64 1) ∧ Below W.heap.size W w') := Lib.hid (joinK hE 65538 1 (by decide) (by decide))
  have J5 : Hid (∀ (W : World) (b : Nat), Below w.heap.size w W → W.heap.size = b → Calls Tryd.prog 34 #[.int .i64 2, .slice (some ⟨b, 0, none⟩) 1 1] (W.alloc (.cells #[.int .i64 (-1)] 3)) fun e w' => e = .returned (.int .i64 9) ∧ Below W.heap.size W w') := Lib.hid (joinLit hE 2 9 [-1] (by decide) (by decide) (by decide))
  have HT1 : Hid (∀ W, Below w.heap.size w W → Calls Tryd.prog 27 #[.int .i64 1, .slice none 0 0] W fun e w' => e = .returned (.tuple #[.string ⟨#[48]⟩, .nilIface]) ∧ Below W.heap.size W w') := Lib.hid (fun W hW => (textX_calls 1 none 0 [] W Ae ((hE.below hW).someL _ (by decide)) (hP.below hW) (nilC W) (by decide) (by decide)).mono (by
    rintro e w' ⟨ev, rfl, hev, hb⟩
    rw [text_one.2] at hev
    rcases hev.nil_iff with ⟨-, rfl⟩ | ⟨h0, -⟩
    · rw [text_one.1]; exact ⟨rfl, hb⟩
    · omega))
  have R0 : Hid (∀ W, Below w.heap.size w W → Calls Tryd.prog 30 #[.string ⟨#[40, 40, 48, 32, 40, 49, 32, 50, 41, 41, 32, 51, 41]⟩] W fun e w' => ∃ A c, e = .returned (.tuple #[.int .i64 4, .slice A 3 c, .nilIface]) ∧ Kd.C (Kd.int .i64) w' A 3 [1, 0, 0] ∧ Below W.heap.size W w') := Lib.hid (readOK hE hP rd1)
  have R1 : Hid (∀ W, Below w.heap.size w W → Calls Tryd.prog 30 #[.string ⟨#[48]⟩] W fun e w' => ∃ A c, e = .returned (.tuple #[.int .i64 1, .slice A 0 c, .nilIface]) ∧ Kd.C (Kd.int .i64) w' A 0 [] ∧ Below W.heap.size W w') := Lib.hid (readOK hE hP rd2)
  have R2 : Hid (∀ W, Below w.heap.size w W → Calls Tryd.prog 30 #[.string ⟨#[40, 48, 32, 40, 49, 32, 50, 41, 41]⟩] W fun e w' => ∃ A c, e = .returned (.tuple #[.int .i64 3, .slice A 2 c, .nilIface]) ∧ Kd.C (Kd.int .i64) w' A 2 [1, 0] ∧ Below W.heap.size W w') := Lib.hid (readOK hE hP rd3)
  obtain ⟨LM, hLM⟩ : ∃ l, leftN 4097 = l := ⟨_, rfl⟩
  obtain ⟨LF, hLF⟩ : ∃ l, leftN 4096 = l := ⟨_, rfl⟩
  obtain ⟨RM, hRM⟩ : ∃ l, rightN 65537 = l := ⟨_, rfl⟩
  have nLM : LM.length = 4096 := by rw [← hLM]; simp [leftN]
  have nLF : LF.length = 4095 := by rw [← hLF]; simp [leftN]
  have nRM : RM.length = 65536 := by rw [← hRM]; simp [rightN]
  have LMc := Lib.hid (lleft 4097 LM 4096 (by rw [← hLM]; unfold ordN; rw [if_pos (by decide)]; rfl) nLM)
  have LFc := Lib.hid (lleft 4096 LF 4095 (by rw [← hLF]; unfold ordN; rw [if_pos (by decide)]; rfl) nLF)
  have RMc := Lib.hid (lright 65537 RM 65536 (by rw [← hRM]; unfold ordN; rw [if_pos (by decide)]; rfl) nRM)
  have RXc := Lib.hid (lright 65538 [] 0 (by unfold ordN; rw [if_neg (by decide)]) rfl)
  have L1c := Lib.hid (lleft 1 [] 0 (by unfold ordN; rw [if_neg (by decide)]) rfl)
  have ENc := Lib.hid (leven (-4) [] 0 (by unfold ordN; rw [if_neg (by decide)]) rfl)
  have L4c := Lib.hid (lleft 4 [0, 0, 0] 3 (by decide) rfl)
  have R4c := Lib.hid (lright 4 [2, 1, 0] 3 (by decide) rfl)
  have E5c := Lib.hid (leven 5 [0, 1, 0, 0] 4 even5 rfl)
  have TMc : Hid (∀ W A c, Below w.heap.size w W → Kd.C (Kd.int .i64) W A 4096 LM → Calls Tryd.prog 27 #[.int .i64 4097, .slice A 4096 c] W fun e w' => ∃ s ev, e = .returned (.tuple #[.string s, ev]) ∧ ErrV w' Ae ev 1 (-1) ∧ Below W.heap.size W w') := Lib.hid (fun W A c hW hC => by
    have := textX_calls 4097 A c LM W Ae ((hE.below hW).someL _ (by decide)) (hP.below hW) (by rw [nLM]; exact hC) (by decide) (by omega)
    rw [nLM] at this
    refine this.mono ?_
    rintro e w' ⟨ev, rfl, hev, hb⟩
    rw [← hLM, left_many] at hev
    exact ⟨_, ev, rfl, hev, hb⟩)
  have TFc : Hid (∀ W A c, Below w.heap.size w W → Kd.C (Kd.int .i64) W A 4095 LF → Calls Tryd.prog 27 #[.int .i64 4096, .slice A 4095 c] W fun e w' => ∃ s, e = .returned (.tuple #[.string s, .nilIface]) ∧ Below W.heap.size W w') := Lib.hid (fun W A c hW hC => by
    have := textX_calls 4096 A c LF W Ae ((hE.below hW).someL _ (by decide)) (hP.below hW) (by rw [nLF]; exact hC) (by decide) (by omega)
    rw [nLF] at this
    refine this.mono ?_
    rintro e w' ⟨ev, rfl, hev, hb⟩
    rw [← hLF, left_fit] at hev
    rcases hev.nil_iff with ⟨-, rfl⟩ | ⟨h0, -⟩
    · exact ⟨_, rfl, hb⟩
    · omega)
  have W0 : Hid (∀ W, Below w.heap.size w W → Calls Tryd.prog 35 #[.string ⟨#[40, 48, 32, 50, 41]⟩] W fun e w' => e = .returned (.agg #[.int .i64 2, .int .i64 3]) ∧ Below W.heap.size W w') := Lib.hid (wrongK hE hP hT _ 2 3 ⟨by rw [(rd_bad rb1).2.2.1]; rfl, by rw [(rd_bad rb1).2.2.2]; rfl⟩)
  have W1 : Hid (∀ W, Below w.heap.size w W → Calls Tryd.prog 35 #[.string ⟨#[40, 48, 32, 49]⟩] W fun e w' => e = .returned (.agg #[.int .i64 2, .int .i64 4]) ∧ Below W.heap.size W w') := Lib.hid (wrongK hE hP hT _ 2 4 ⟨by rw [(rd_bad rb2).2.2.1]; rfl, by rw [(rd_bad rb2).2.2.2]; rfl⟩)
  have W2 : Hid (∀ W, Below w.heap.size w W → Calls Tryd.prog 35 #[.string ⟨#[40, 48, 41]⟩] W fun e w' => e = .returned (.agg #[.int .i64 2, .int .i64 2]) ∧ Below W.heap.size W w') := Lib.hid (wrongK hE hP hT _ 2 2 ⟨by rw [(rd_bad rb3).2.2.1]; rfl, by rw [(rd_bad rb3).2.2.2]; rfl⟩)
  have W3 : Hid (∀ W, Below w.heap.size w W → Calls Tryd.prog 35 #[.string ⟨#[49]⟩] W fun e w' => e = .returned (.agg #[.int .i64 2, .int .i64 0]) ∧ Below W.heap.size W w') := Lib.hid (wrongK hE hP hT _ 2 0 ⟨by rw [(rd_bad rb4).2.2.1]; rfl, by rw [(rd_bad rb4).2.2.2]; rfl⟩)
  have W4 : Hid (∀ W, Below w.heap.size w W → Calls Tryd.prog 35 #[.string ⟨#[]⟩] W fun e w' => e = .returned (.agg #[.int .i64 2, .int .i64 0]) ∧ Below W.heap.size W w') := Lib.hid (wrongK hE hP hT _ 2 0 ⟨by rw [(rd_bad rb5).2.2.1]; rfl, by rw [(rd_bad rb5).2.2.2]; rfl⟩)
  have W5 : Hid (∀ W, Below w.heap.size w W → Calls Tryd.prog 35 #[.string ⟨#[48, 32]⟩] W fun e w' => e = .returned (.agg #[.int .i64 2, .int .i64 1]) ∧ Below W.heap.size W w') := Lib.hid (wrongK hE hP hT _ 2 1 ⟨by rw [(rd_bad rb6).2.2.1]; rfl, by rw [(rd_bad rb6).2.2.2]; rfl⟩)
  have W6 : Hid (∀ W, Below w.heap.size w W → Calls Tryd.prog 35 #[.string ⟨#[40, 48, 32, 32, 49, 41]⟩] W fun e w' => e = .returned (.agg #[.int .i64 2, .int .i64 3]) ∧ Below W.heap.size W w') := Lib.hid (wrongK hE hP hT _ 2 3 ⟨by rw [(rd_bad rb7).2.2.1]; rfl, by rw [(rd_bad rb7).2.2.2]; rfl⟩)
  have W7 : Hid (∀ W, Below w.heap.size w W → Calls Tryd.prog 35 #[.string ⟨#[40, 40, 48, 32, 49, 41, 32, 50]⟩] W fun e w' => e = .returned (.agg #[.int .i64 2, .int .i64 8]) ∧ Below W.heap.size W w') := Lib.hid (wrongK hE hP hT _ 2 8 ⟨by rw [(rd_bad rb8).2.2.1]; rfl, by rw [(rd_bad rb8).2.2.2]; rfl⟩)
  have W8 : Hid (∀ W, Below w.heap.size w W → Calls Tryd.prog 35 #[.string ⟨#[48]⟩] W fun e w' => e = .returned (.agg #[.int .i64 0, .int .i64 (-1)]) ∧ Below W.heap.size W w') := Lib.hid (wrongK hE hP hT _ 0 (-1) ⟨by rw [(rd_ok rd2).2.2.1]; rfl, by rw [(rd_ok rd2).2.2.2]⟩)
  have HE := Lib.hid hE
  have HB := Lib.hid (Below.refl w.heap.size w)
  clear hE hP hT hLM hLF hRM nLM nLF nRM
  go_enter Tryd.func9, Tryd.ntmps9
  go_upto_region 3 with (first
    | (go_at_call 11; refine (HAw.out _ HB.out).mono ?_; rintro e w' ⟨rfl, hb⟩; replace HB := Lib.hid (below_next HB.out hb); clear hb)
    | (go_at_call 33; (first | (with_reducible refine (C0.out _ HB.out).mono ?_) | (with_reducible refine (C1.out _ _ HB.out rfl).mono ?_) | (with_reducible refine (C2.out _ _ HB.out rfl).mono ?_) | (with_reducible refine (C3.out _ HB.out).mono ?_) | (with_reducible refine (C4.out _ HB.out).mono ?_) | (with_reducible refine (C5.out _ HB.out).mono ?_)); rintro e w' ⟨rfl, hb⟩; replace HB := Lib.hid (below_next HB.out hb); clear hb)
    | (go_at_call 34; (first | (with_reducible refine (J0.out _ _ HB.out rfl).mono ?_) | (with_reducible refine (J1.out _ _ HB.out rfl).mono ?_) | (with_reducible refine (J2.out _ HB.out).mono ?_) | (with_reducible refine (J3.out _ HB.out).mono ?_) | (with_reducible refine (J4.out _ HB.out).mono ?_) | (with_reducible refine (J5.out _ _ HB.out rfl).mono ?_)); rintro e w1 ⟨rfl, hb⟩; replace HB := Lib.hid (below_next HB.out hb); clear hb))
  have HT := trivial
  go_upto_region 9 with (first
    | (go_at_call 27; (with_reducible refine (HT1.out _ HB.out).mono ?_); rintro e w2 ⟨rfl, hb⟩; replace HB := Lib.hid (below_next HB.out hb); clear hb)
    | (go_at_call 27; (with_reducible refine (TMc.out _ _ _ HB.out HC6.out).mono ?_); rintro e w7 ⟨s7, ev7, rfl, hev, hb⟩; have HV7 := Lib.hid hev; replace HB := Lib.hid (below_next HB.out hb); replace HC3 := Lib.hid (Kd.C_below HC3.out hb); replace HC5 := Lib.hid (Kd.C_below HC5.out hb); clear hb hev HC6)
    | (go_at_call 27; (with_reducible refine (TFc.out _ _ _ HB.out HC8.out).mono ?_); rintro e w9 ⟨s9, rfl, hb⟩; replace HV7 := Lib.hid (HV7.out.below hb); replace HB := Lib.hid (below_next HB.out hb); replace HC3 := Lib.hid (Kd.C_below HC3.out hb); replace HC5 := Lib.hid (Kd.C_below HC5.out hb); clear hb HC8)
    | (go_at_call 30; (with_reducible refine (R0.out _ HB.out).mono ?_); rintro e w3 ⟨A3, c3, rfl, hC, hb⟩; have HC3 := Lib.hid hC; replace HB := Lib.hid (below_next HB.out hb); clear hb hC)
    | (go_at_call 30; (with_reducible refine (R1.out _ HB.out).mono ?_); rintro e w4 ⟨A4, c4, rfl, -, hb⟩; replace HB := Lib.hid (below_next HB.out hb); replace HC3 := Lib.hid (Kd.C_below HC3.out hb); clear hb)
    | (go_at_call 30; (with_reducible refine (R2.out _ HB.out).mono ?_); rintro e w5 ⟨A5, c5, rfl, hC, hb⟩; have HC5 := Lib.hid hC; replace HB := Lib.hid (below_next HB.out hb); replace HC3 := Lib.hid (Kd.C_below HC3.out hb); clear hb hC)
    | (go_at_call 12; (with_reducible refine (LMc.out _).mono ?_); rintro e w6 ⟨A6, c6, rfl, hC, hb⟩; have HC6 := Lib.hid hC; replace HB := Lib.hid (below_next HB.out hb); replace HC3 := Lib.hid (Kd.C_below HC3.out hb); replace HC5 := Lib.hid (Kd.C_below HC5.out hb); clear hb hC)
    | (go_at_call 12; (with_reducible refine (LFc.out _).mono ?_); rintro e w8 ⟨A8, c8, rfl, hC, hb⟩; have HC8 := Lib.hid hC; replace HB := Lib.hid (below_next HB.out hb); replace HC3 := Lib.hid (Kd.C_below HC3.out hb); replace HC5 := Lib.hid (Kd.C_below HC5.out hb); replace HV7 := Lib.hid (HV7.out.below hb); clear hb hC))
  have I3 : Hid (∀ (W : World) (b : Nat), Below w9.heap.size w9 W → W.heap.size = b → Calls Tryd.prog 18 #[.slice A3 3 c3, .slice (some ⟨b, 0, none⟩) 3 3] (W.alloc (.cells #[.int .i64 1, .int .i64 0, .int .i64 0] 3)) fun e w' => e = .returned (.bool true) ∧ Below W.heap.size W w') := Lib.hid (intsLit c3 [1, 0, 0] (by decide) HC3.out)
  have I5 : Hid (∀ (W : World) (b : Nat), Below w9.heap.size w9 W → W.heap.size = b → Calls Tryd.prog 18 #[.slice A5 2 c5, .slice (some ⟨b, 0, none⟩) 2 2] (W.alloc (.cells #[.int .i64 1, .int .i64 0] 3)) fun e w' => e = .returned (.bool true) ∧ Below W.heap.size W w') := Lib.hid (intsLit c5 [1, 0] (by decide) HC5.out)
  have HB9 := Lib.hid HB.out
  clear HB
  have HB := Lib.hid (Below.refl w9.heap.size w9)
  clear HT1 TMc TFc R0 R1 R2 LMc LFc HC3 HC5
  go_upto_region 11 with (first
    | (go_at_call 18; (with_reducible refine (I3.out _ _ HB.out rfl).mono ?_); rintro e w10 ⟨rfl, hb⟩; replace HB := Lib.hid (below_next HB.out hb); clear hb)
    | (go_at_call 18; (with_reducible refine (I5.out _ _ HB.out rfl).mono ?_); rintro e w11 ⟨rfl, hb⟩; replace HB := Lib.hid (below_next HB.out hb); clear hb)
    | (go_at_call 23; refine (kind_calls (HE.out.below (below_next HB9.out HB.out)) (HV7.out.below HB.out)).mono ?_; rintro e w12 ⟨rfl, hb⟩; have HB12 := Lib.hid (below_next HB9.out (below_next HB.out hb)); clear hb HB))
  have HB := Lib.hid HB12.out
  clear HB12 HB9 I3 I5 HV7
  go_upto_region 13 with (first
    | (go_at_call 12; (with_reducible refine (L4c.out _).mono ?_); rintro e w13 ⟨Ax, cx, rfl, hC, hb⟩; replace HB := Lib.hid (below_next HB.out hb); (have IX : Hid (∀ (W : World) (b : Nat), Below w13.heap.size w13 W → W.heap.size = b → Calls Tryd.prog 18 #[.slice Ax 3 cx, .slice (some ⟨b, 0, none⟩) 3 3] (W.alloc (.cells #[.int .i64 0, .int .i64 0, .int .i64 0] 3)) fun e w' => e = .returned (.bool true) ∧ Below W.heap.size W w') := Lib.hid (intsLit cx [0, 0, 0] (by decide) hC)); clear hb hC)
    | (go_at_call 13; (with_reducible refine (R4c.out _).mono ?_); rintro e w15 ⟨Ax, cx, rfl, hC, hb⟩; replace HB := Lib.hid (below_next HB.out hb); (have IX : Hid (∀ (W : World) (b : Nat), Below w15.heap.size w15 W → W.heap.size = b → Calls Tryd.prog 18 #[.slice Ax 3 cx, .slice (some ⟨b, 0, none⟩) 3 3] (W.alloc (.cells #[.int .i64 2, .int .i64 1, .int .i64 0] 3)) fun e w' => e = .returned (.bool true) ∧ Below W.heap.size W w') := Lib.hid (intsLit cx [2, 1, 0] (by decide) hC)); clear hb hC)
    | (go_at_call 14; (with_reducible refine (E5c.out _).mono ?_); rintro e w17 ⟨Ax, cx, rfl, hC, hb⟩; replace HB := Lib.hid (below_next HB.out hb); (have IX : Hid (∀ (W : World) (b : Nat), Below w17.heap.size w17 W → W.heap.size = b → Calls Tryd.prog 18 #[.slice Ax 4 cx, .slice (some ⟨b, 0, none⟩) 4 4] (W.alloc (.cells #[.int .i64 0, .int .i64 1, .int .i64 0, .int .i64 0] 3)) fun e w' => e = .returned (.bool true) ∧ Below W.heap.size W w') := Lib.hid (intsLit cx [0, 1, 0, 0] (by decide) hC)); clear hb hC)
    | (go_at_call 18; (with_reducible refine (IX.out _ _ (Below.refl _ _) rfl).mono ?_); rintro e w14 ⟨rfl, hb⟩; replace HB := Lib.hid (below_next HB.out hb); clear hb IX)
    | (go_at_call 12; (with_reducible refine (L1c.out _).mono ?_); rintro e w20 ⟨Ay, cy, rfl, -, hb⟩; replace HB := Lib.hid (below_next HB.out hb); clear hb)
    | (go_at_call 14; (with_reducible refine (ENc.out _).mono ?_); rintro e w20 ⟨Ay, cy, rfl, -, hb⟩; replace HB := Lib.hid (below_next HB.out hb); clear hb)
    | (go_at_call 13; (with_reducible refine (RXc.out _).mono ?_); rintro e w20 ⟨Ay, cy, rfl, -, hb⟩; replace HB := Lib.hid (below_next HB.out hb); clear hb)
    | (go_at_call 13; (with_reducible refine (RMc.out _).mono ?_); rintro e w20 ⟨Ay, cy, rfl, -, hb⟩; replace HB := Lib.hid (below_next HB.out hb); clear hb))
  clear L4c R4c E5c L1c ENc RXc RMc
  have HQe := eqe2
  have HQ2 : ∀ (a0 a1 b0 b1 : Int) (W : World), (Op.equalIn 10000 44 (.agg #[.int .i64 a0, .int .i64 a1]) (.agg #[.int .i64 b0, .int .i64 b1])).run Tryd.prog W = .ok (a0 == b0 && a1 == b1) W := fun a0 a1 b0 b1 W => eq2 9998 a0 a1 b0 b1 W
  go_wp2_with (first
    | (go_at_call 35; (with_reducible refine (W0.out _ HB.out).mono ?_); rintro e w30 ⟨rfl, hb⟩; replace HB := Lib.hid (below_next HB.out hb); clear hb)
    | (go_at_call 35; (with_reducible refine (W1.out _ HB.out).mono ?_); rintro e w30 ⟨rfl, hb⟩; replace HB := Lib.hid (below_next HB.out hb); clear hb)
    | (go_at_call 35; (with_reducible refine (W2.out _ HB.out).mono ?_); rintro e w30 ⟨rfl, hb⟩; replace HB := Lib.hid (below_next HB.out hb); clear hb)
    | (go_at_call 35; (with_reducible refine (W3.out _ HB.out).mono ?_); rintro e w30 ⟨rfl, hb⟩; replace HB := Lib.hid (below_next HB.out hb); clear hb)
    | (go_at_call 35; (with_reducible refine (W4.out _ HB.out).mono ?_); rintro e w30 ⟨rfl, hb⟩; replace HB := Lib.hid (below_next HB.out hb); clear hb)
    | (go_at_call 35; (with_reducible refine (W5.out _ HB.out).mono ?_); rintro e w30 ⟨rfl, hb⟩; replace HB := Lib.hid (below_next HB.out hb); clear hb)
    | (go_at_call 35; (with_reducible refine (W6.out _ HB.out).mono ?_); rintro e w30 ⟨rfl, hb⟩; replace HB := Lib.hid (below_next HB.out hb); clear hb)
    | (go_at_call 35; (with_reducible refine (W7.out _ HB.out).mono ?_); rintro e w30 ⟨rfl, hb⟩; replace HB := Lib.hid (below_next HB.out hb); clear hb)
    | (go_at_call 35; (with_reducible refine (W8.out _ HB.out).mono ?_); rintro e w30 ⟨rfl, hb⟩; replace HB := Lib.hid (below_next HB.out hb); clear hb))
  go_ret
  exact ⟨ret_bool (by simp), HB.out⟩
end Go.Proofs.YtcikcnkhcfhomaaDoor.Hand
