/- The texts that the statement's proof stands on, part 3: XPlRdP XPlRdF XAs XHd XApC XApM XApart XHdR XEq XPlReads XKinds XKit XOpens. -/
import Derived.Test.YtcikcnkhcfhomaaDoorZPlanKnown2
import Derived.LaidEql
import Derived.Stop.Asserts
import Derived.RowKitTokens
import Derived.ArgAppend
import Derived.Deep.Slices
import Derived.ChangeSame
import Derived.SizedLaws
import Derived.Lib.SmallJoins
/- Contracts: the document's reader: part; its Read. -/
namespace Go.Proofs.YtcikcnkhcfhomaaDoor.Hand
open Go.RowKit Go.Proofs.YtcikcnkhcfhomaaDoorW.PrintWords Go.Proofs.YtcikcnkhcfhomaaDoorW.PrintMore Go.Proofs.YtcikcnkhcfhomaaDoor.Math

/-- What part leaves. -/
def PartP (w0 : World) (b : Nat) (txt : ByteArray) (s : Bool × Nat × Nat × List Nat) (e : Ending) (w' : World) : Prop :=
  e = .returned (.bool s.1) ∧ ∃ v, RdAt w0 w' b txt s.2.1 s.2.2.1 v s.2.2.2
theorem byte_yes (w0 w : World) (b i m : Nat) (txt : ByteArray) (v : Value) (o : List Nat) (c : UInt8) (C : Int) (hC : (c.toNat : Int) = C) (h : RdAt w0 w b txt i m v o) (hz : txt.size ≤ 1048576) (hi : i ≤ txt.size) (hy : txt.data.toList[i]? = some c) :
    Calls Tryd.prog 56 #[.pointer (some ⟨b, 0, none⟩), .int .u8 C] w fun e w' => e = .returned (.bool true) ∧ RdAt w0 w' b txt (i + 1) m v o := by
  subst hC
  refine (byte_calls w0 w b i m txt v o c h hz hi).mono ?_
  rintro e w' ⟨h1, h2⟩
  rw [decide_eq_true hy] at h1
  rw [if_pos hy] at h2
  exact ⟨h1, h2⟩
theorem byte_no (w0 w : World) (b i m : Nat) (txt : ByteArray) (v : Value) (o : List Nat) (c : UInt8) (C : Int) (hC : (c.toNat : Int) = C) (h : RdAt w0 w b txt i m v o) (hz : txt.size ≤ 1048576) (hi : i ≤ txt.size) (hy : ¬ txt.data.toList[i]? = some c) :
    Calls Tryd.prog 56 #[.pointer (some ⟨b, 0, none⟩), .int .u8 C] w fun e w' => e = .returned (.bool false) ∧ RdAt w0 w' b txt i m v o := by
  subst hC
  refine (byte_calls w0 w b i m txt v o c h hz hi).mono ?_
  rintro e w' ⟨h1, h2⟩
  rw [decide_eq_false hy] at h1
  rw [if_neg hy] at h2
  exact ⟨h1, h2⟩
set_option maxHeartbeats 4000000 in
set_option maxRecDepth 100000 in
theorem part_calls (w0 : World) (b : Nat) (txt : ByteArray) (hz : txt.size ≤ 1048576) : ∀ (f p i m : Nat) (v : Value) (o : List Nat) (w : World), txt.size < i + f → i ≤ txt.size → p ≤ i → m ≤ i → o.length ≤ i → RdAt w0 w b txt i m v o →
    Calls Tryd.prog 48 #[.pointer (some ⟨b, 0, none⟩), .int .i64 (p : Int)] w (PartP w0 b txt (partF txt.data.toList f p i m o))
  | 0, p, i, m, v, o, w, hf, hi, _, _, _, _ => by omega
  | f + 1, p, i, m, v, o, w, hf, hi, hp, hm, ho, h => by
    have ih := part_calls w0 b txt hz f
    have HIH := Lib.hid ih
    have HH := Lib.hid h
    have c0 := h.c0
    have c1 := h.c1
    obtain ⟨t, ht⟩ : ∃ t, txt.data.toList = t := ⟨_, rfl⟩
    have HT := Lib.hid ht
    have htl : t.length = txt.size := by rw [← ht, Array.length_toList]; rfl
    rw [ht]
    clear ih h
    by_cases h40 : t[i]? = some 40
    · have hlt : i < txt.size := by rw [← htl]; exact some_lt h40
      have HS : Hid (partF t (f + 1) p i m o = (let s1 := partF t f p (i + 1) m o
       if s1.1 = true then
         (if t[s1.2.1]? = some 32 then
           (let s2 := partF t f (p + 1) (s1.2.1 + 1) s1.2.2.1 s1.2.2.2
            if s2.1 = true then
              (if t[s2.2.1]? = some 41 then (true, s2.2.1 + 1, s2.2.2.1, s2.2.2.2 ++ [p]) else (false, s2.2.1, s2.2.2.1, s2.2.2.2))
            else (false, s2.2.1, s2.2.2.1, s2.2.2.2))
         else (false, s1.2.1, s1.2.2.1, s1.2.2.2))
       else (false, s1.2.1, s1.2.2.1, s1.2.2.2))) := Lib.hid (by rw [partF, if_pos h40])
      have hrule : ∀ h : i < txt.size, ((txt[i]'h).toNat : Int) = 40 := fun h => by
        have hll : i < t.length := by omega
        rw [List.getElem?_eq_getElem hll] at h40
        injection h40 with h40
        have : txt[i]'h = t[i]'hll := by subst ht; rfl
        rw [this, h40]; rfl
      have hlI : decide ((i : Int) < (txt.size : Int)) = true := decide_eq_true (by omega)
      have hlN : decide (i < txt.size) = true := decide_eq_true hlt
      have i0 : (0 : Int) ≤ (i : Int) := by omega
      have i1 : (i : Int) < (txt.size : Int) := by omega
      obtain ⟨sF, hsF⟩ : ∃ s, partF t (f + 1) p i m o = s := ⟨_, rfl⟩
      rw [hsF] at HS ⊢
      clear h40 ht htl hsF
      go_enter Tryd.func48, Tryd.ntmps48
      go_wp2
      go_quiet (fail)
      have HD := Lib.hid (HH.out.drewN nq)
      have c1 := HD.out.c1
      have f1 := HD.out.f 1
      clear hlI hlN hrule
      go_upto_region 3 with (fail)
      obtain ⟨w2, hw2⟩ : ∃ w2, (w.drewN nq).setCell ⟨b, 1, none⟩ (.int .i64 ((i : Int) + 1)) = w2 := ⟨_, rfl⟩
      have h2 : RdAt w0 w2 b txt (i + 1) m v o := by
        rw [← hw2]
        have := HD.out.set1 (i + 1)
        rw [show ((i + 1 : Nat) : Int) = (i : Int) + 1 by omega] at this
        exact this
      rw [hw2]
      have HP1 := HIH.out p (i + 1) m v o w2 (by omega) (by omega) (by omega) (by omega) (by omega) h2
      rw [HT.out] at HP1
      have hb1 := part_bound t f p (i + 1) m o (by rw [← HT.out, Array.length_toList]; exact hlt)
      rcases hs1 : partF t f p (i + 1) m o with ⟨b1, a1, m1, o1⟩
      rw [hs1] at HP1 hb1 HS
      simp only at hb1
      have htl : t.length = txt.size := by rw [← HT.out, Array.length_toList]; rfl
      rw [htl] at hb1
      have HP1 := Lib.hid HP1
      clear h2 hw2 hs1 c0 c1 f1 htl i0 i1
      cases b1 with
      | false =>
        go_wp2_with (go_at_call 48; refine HP1.out.mono ?_; rintro e w3 ⟨rfl, v3, h3⟩; have H3 := Lib.hid h3; clear h3)
        go_ret
        refine (show PartP w0 b txt sF _ _ from ?_)
        have e := HS.out
        simp at e
        rw [e]
        exact ⟨rfl, v3, H3.out⟩
      | true =>
        have bi1 : a1 ≤ txt.size := hb1.2.1
        by_cases h32 : t[a1]? = some 32
        · have hlt1 : a1 < txt.size := by
            have := some_lt h32
            rw [← HT.out, Array.length_toList] at this
            exact this
          have HB1 : Hid (∀ W v', RdAt w0 W b txt a1 m1 v' o1 → Calls Tryd.prog 56 #[.pointer (some ⟨b, 0, none⟩), .int .u8 32] W fun e w' => e = .returned (.bool true) ∧ RdAt w0 w' b txt (a1 + 1) m1 v' o1) := Lib.hid (fun W v' h => byte_yes w0 W b a1 m1 txt v' o1 32 32 rfl h hz bi1 (by rw [HT.out]; exact h32))
          have HP2 : Hid (∀ W v', RdAt w0 W b txt (a1 + 1) m1 v' o1 → Calls Tryd.prog 48 #[.pointer (some ⟨b, 0, none⟩), .int .i64 ((p : Int) + 1)] W (PartP w0 b txt (partF t f (p + 1) (a1 + 1) m1 o1))) := Lib.hid (fun W v' h => by
            have := HIH.out (p + 1) (a1 + 1) m1 v' o1 W (by omega) (by omega) (by omega) (by omega) (by omega) h
            rw [HT.out, show ((p + 1 : Nat) : Int) = (p : Int) + 1 by omega] at this
            exact this)
          have hb2 := part_bound t f (p + 1) (a1 + 1) m1 o1 (by rw [← HT.out, Array.length_toList]; exact hlt1)
          rcases hs2 : partF t f (p + 1) (a1 + 1) m1 o1 with ⟨b2, a2, m2, o2⟩
          rw [hs2] at hb2
          simp only at hb2
          have hs2' := hs2
          simp only [if_true, h32, hs2'] at HS
          rw [hs2] at HP2
          have htl : t.length = txt.size := by rw [← HT.out, Array.length_toList]; rfl
          rw [htl] at hb2
          clear htl hs2 hs2' h32
          cases b2 with
          | false =>
            go_wp2_with (first
              | (go_at_call 56; (with_reducible refine (HB1.out w3 v3 H3.out).mono ?_); rintro e w4 ⟨rfl, h4⟩; have H4 := Lib.hid h4; clear h4)
              | (go_at_call 48; (with_reducible refine (HP2.out w4 v3 H4.out).mono ?_); rintro e w5 ⟨rfl, v5, h5⟩; have H5 := Lib.hid h5; clear h5)
              | (go_at_call 48; (with_reducible refine HP1.out.mono ?_); rintro e w3 ⟨rfl, v3, h3⟩; have H3 := Lib.hid h3; clear h3))
            go_ret
            refine (show PartP w0 b txt sF _ _ from ?_)
            have e := HS.out
            simp at e
            rw [e]
            exact ⟨rfl, v5, H5.out⟩
          | true =>
            have bi2 : a2 ≤ txt.size := hb2.2.1
            by_cases h41 : t[a2]? = some 41
            · have HB2 : Hid (∀ W v', RdAt w0 W b txt a2 m2 v' o2 → Calls Tryd.prog 56 #[.pointer (some ⟨b, 0, none⟩), .int .u8 41] W fun e w' => e = .returned (.bool true) ∧ RdAt w0 w' b txt (a2 + 1) m2 v' o2) := Lib.hid (fun W v' h => byte_yes w0 W b a2 m2 txt v' o2 41 41 rfl h hz bi2 (by rw [HT.out]; exact h41))
              simp only [if_true, h41] at HS
              clear h41
              go_upto_region 4 with (first
                | (go_at_call 56; (with_reducible refine (HB1.out w3 v3 H3.out).mono ?_); rintro e w4 ⟨rfl, h4⟩; have H4 := Lib.hid h4; clear h4)
                | (go_at_call 56; (with_reducible refine (HB2.out w5 v5 H5.out).mono ?_); rintro e w6 ⟨rfl, h6⟩; have H6 := Lib.hid h6; clear h6)
                | (go_at_call 48; (with_reducible refine (HP2.out w4 v3 H4.out).mono ?_); rintro e w5 ⟨rfl, v5, h5⟩; have H5 := Lib.hid h5; clear h5)
                | (go_at_call 48; (with_reducible refine HP1.out.mono ?_); rintro e w3 ⟨rfl, v3, h3⟩; have H3 := Lib.hid h3; clear h3))
              obtain ⟨A6, c6, rfl⟩ := Kd.R_slice H6.out.own
              have c3 := H6.out.c3
              have hol : (oI o2).length ≤ 1048577 := by simp [oI]; omega
              have HOl := Lib.hid hol
              obtain ⟨n6, hn6⟩ : ∃ n, (oI o2).length = n := ⟨_, rfl⟩
              have HN6 := Lib.hid hn6
              rw [hn6] at c3
              have HO6 : Hid ((Kd.int .i64).R 3 w6 w0.heap.size (fun k => k ≠ b) (.slice A6 n6 c6) (oI o2)) := Lib.hid (by rw [← hn6]; exact H6.out.own)
              clear hol hn6
              go_wp2_with ((with_reducible refine gate_builtin (b := .append) (xs := #[.tmp 60, .tmp 62]) rfl ?_); at_builtin; go_loud (refine Kd.R_append (Kd.int .i64) (w0 := w0) w0.heap.size rfl (.tmp 60) (.tmp 62) 22 3 (.int .i64 0) 8 rfl Tryd.underlying22 infoInt rfl (by decide) (by omega) (.slice A6 n6 c6) (oI o2) ((p : Int)) [.int .i64 (p : Int)] (fun k => k ≠ b) (fun _ => False) rfl rfl rfl (fun _ hk => hk.elim) (fun k hk => by have := H6.out.lt; omega) HO6.out H6.out.bel H6.out.bel.size (by have := HOl.out; omega) ?_); intro v7 w7 ho hb hg hat; (obtain ⟨A7, d7, e7⟩ := Kd.R_slice ho; obtain ⟨n7, hn7⟩ : ∃ L : Nat, (oI o2 ++ [(p : Int)]).length = L := ⟨_, rfl⟩; rw [hn7] at e7; subst e7; clear hn7; have H8 : Hid (RdAt w0 (w7.setCell ⟨b, 3, none⟩ (.slice A7 n7 d7)) b txt (a2 + 1) m2 (.slice A7 n7 d7) (o2 ++ [p])) := Lib.hid (H6.out.set3 (by unfold oI at ho ⊢; rw [List.map_append]; exact ho) hb (by rw [HN6.out]; exact hg)); have c7 : w7.cell? ⟨b, 3, none⟩ = some (.slice A6 n6 c6) := cell_grown hg c3 (fun e => HO6.out.1 b e.symm rfl); have f7 : w7.frozen? ⟨b, 3, none⟩ = false := (World.frozen?_of_block (a := ⟨b, 3, none⟩) (hg.block b H6.out.lt (fun e => HO6.out.1 b e.symm rfl))).trans (H6.out.f 3); clear ho hb hg hat c3))
              go_ret
              refine (show PartP w0 b txt sF _ _ from ?_)
              rw [HS.out]
              exact ⟨rfl, _, H8.out⟩
            · have HB2 : Hid (∀ W v', RdAt w0 W b txt a2 m2 v' o2 → Calls Tryd.prog 56 #[.pointer (some ⟨b, 0, none⟩), .int .u8 41] W fun e w' => e = .returned (.bool false) ∧ RdAt w0 w' b txt a2 m2 v' o2) := Lib.hid (fun W v' h => byte_no w0 W b a2 m2 txt v' o2 41 41 rfl h hz bi2 (by rw [HT.out]; exact h41))
              simp only [if_true, h41] at HS
              clear h41
              go_wp2_with (first
                | (go_at_call 56; (with_reducible refine (HB1.out w3 v3 H3.out).mono ?_); rintro e w4 ⟨rfl, h4⟩; have H4 := Lib.hid h4; clear h4)
                | (go_at_call 56; (with_reducible refine (HB2.out w5 v5 H5.out).mono ?_); rintro e w6 ⟨rfl, h6⟩; have H6 := Lib.hid h6; clear h6)
                | (go_at_call 48; (with_reducible refine (HP2.out w4 v3 H4.out).mono ?_); rintro e w5 ⟨rfl, v5, h5⟩; have H5 := Lib.hid h5; clear h5)
                | (go_at_call 48; (with_reducible refine HP1.out.mono ?_); rintro e w3 ⟨rfl, v3, h3⟩; have H3 := Lib.hid h3; clear h3))
              go_ret
              refine (show PartP w0 b txt sF _ _ from ?_)
              have e := HS.out
              simp at e
              rw [e]
              exact ⟨rfl, v5, H6.out⟩
        · have HB1 : Hid (∀ W v', RdAt w0 W b txt a1 m1 v' o1 → Calls Tryd.prog 56 #[.pointer (some ⟨b, 0, none⟩), .int .u8 32] W fun e w' => e = .returned (.bool false) ∧ RdAt w0 w' b txt a1 m1 v' o1) := Lib.hid (fun W v' h => byte_no w0 W b a1 m1 txt v' o1 32 32 rfl h hz bi1 (by rw [HT.out]; exact h32))
          simp only [if_true, h32] at HS
          clear h32
          go_wp2_with (first
            | (go_at_call 56; (with_reducible refine (HB1.out w3 v3 H3.out).mono ?_); rintro e w4 ⟨rfl, h4⟩; have H4 := Lib.hid h4; clear h4)
            | (go_at_call 48; (with_reducible refine HP1.out.mono ?_); rintro e w3 ⟨rfl, v3, h3⟩; have H3 := Lib.hid h3; clear h3))
          go_ret
          refine (show PartP w0 b txt sF _ _ from ?_)
          have e := HS.out
          simp at e
          rw [e]
          exact ⟨rfl, v3, H4.out⟩
    · have HS : Hid (partF t (f + 1) p i m o = if (matchF t i (Lib.decDigits m)).1 = true then (true, (matchF t i (Lib.decDigits m)).2, m + 1, o) else (false, (matchF t i (Lib.decDigits m)).2, m, o)) := Lib.hid (by rw [partF, if_neg h40])
      obtain ⟨ds, hds⟩ : ∃ ds, Lib.decDigits m = ds := ⟨_, rfl⟩
      rw [hds] at HS
      obtain ⟨sF, hsF⟩ : ∃ s, partF t (f + 1) p i m o = s := ⟨_, rfl⟩
      rw [hsF] at HS ⊢
      obtain ⟨D, hD⟩ : ∃ D, decB m = D := ⟨_, rfl⟩
      have hDz : D.size ≤ 7 := by rw [← hD]; exact decB_size (k := 6) (by omega)
      have hDl : D.data.toList = ds := by rw [← hD, ← hds]; rfl
      have HNm : Hid (∀ W, Calls Tryd.prog 45 #[.int .i64 m] W fun e w' => e = .returned (.string D) ∧ Below W.heap.size W w') := Lib.hid (fun W => by rw [← hD]; exact number_calls m W (by omega))
      have HDl := Lib.hid hDl
      have h40' : i < txt.size → ∃ X : Int, (∀ h : i < txt.size, ((txt[i]'h).toNat : Int) = X) ∧ (X == 40) = false := fun hlt => by
        have hll : i < t.length := by omega
        rw [List.getElem?_eq_getElem hll] at h40
        refine ⟨((t[i]'hll).toNat : Int), fun h => by subst ht; rfl, ?_⟩
        rw [beq_eq_false_iff_ne]
        intro e
        exact h40 (congrArg some (u8_is.2 e))
      have H40 := Lib.hid h40'
      clear h40 h40' ht htl hsF hds hD hDl
      have HG : Hid (∀ (nq : Nat), RdAt w0 (w.drewN nq) b txt i m v o) := Lib.hid (fun nq => HH.out.drewN nq)
      have hcase : i < txt.size ∨ ¬ i < txt.size := Nat.lt_or_ge i txt.size |>.imp_right Nat.not_lt.2
      have fin : Hid (∀ (w5 : World) (k : Nat) (vk : Value), k ≤ D.size → RdAt w0 w5 b txt (i + k) m vk o → True) := Lib.hid (fun _ _ _ _ _ => trivial)
      rcases hcase with hlt | hlt
      · obtain ⟨X, hrule, hX⟩ := H40.out hlt
        have hlI : decide ((i : Int) < (txt.size : Int)) = true := decide_eq_true (by omega)
        have hlN : decide (i < txt.size) = true := decide_eq_true hlt
        have i0 : (0 : Int) ≤ (i : Int) := by omega
        have i1 : (i : Int) < (txt.size : Int) := by omega
        go_enter Tryd.func48, Tryd.ntmps48
        go_wp2
        go_quiet (fail)
        clear hlI hlN hrule i0 i1
        obtain ⟨w1, hw1⟩ : ∃ w1, w.drewN nq = w1 := ⟨_, rfl⟩
        have h1 := HG.out nq
        rw [hw1] at h1 ⊢
        clear hw1
        have H1 := Lib.hid h1
        have c2 := h1.c2
        clear h1 c0 c1
        go_wp2_with (go_at_call 45; refine (HNm.out _).mono ?_; rintro e w2 ⟨rfl, hb⟩; have H2 := Lib.hid (H1.out.below hb); clear hb)
        go_loopw [7] (fun x wr => ∃ k : Nat, x = .int .i64 k ∧ k ≤ D.size ∧ i + k ≤ txt.size ∧ Hid (RdAt w0 wr b txt (i + k) m v o) ∧ Hid (matchF t i ds = matchF t (i + k) (ds.drop k))) (fun x _ => D.size - (intOf x).toNat)
        case atStart => exact ⟨0, rfl, by omega, by omega, H2, Lib.hid (by simp)⟩
        case round =>
          obtain ⟨k, rfl, hk, hik, HR, HM⟩ := hrel
          by_cases hkl : k < D.size
          · have hkd : k < ds.length := by rw [← HDl.out, Array.length_toList]; exact hkl
            have hDk : ∀ h : k < D.size, ((D[k]'h).toNat : Int) = ((ds[k]'hkd).toNat : Int) := fun h => by
              have : D[k]'h = D.data.toList[k]'(by rw [Array.length_toList]; exact h) := rfl
              rw [this]
              simp only [HDl.out]
            obtain ⟨y, hy⟩ : ∃ y, ds[k]'hkd = y := ⟨_, rfl⟩
            rw [hy] at hDk
            obtain ⟨Y, hY⟩ : ∃ Y : Int, (y.toNat : Int) = Y := ⟨_, rfl⟩
            rw [hY] at hDk
            have k0 : (0 : Int) ≤ (k : Int) := by omega
            have k1 : (k : Int) < (D.size : Int) := by omega
            by_cases hb1 : t[i + k]? = some y
            · have HB := Lib.hid (byte_yes w0 wr b (i + k) m txt v o y Y hY HR.out hz hik (by rw [HT.out]; exact hb1))
              have hsl : i + k < txt.size := by
                have := some_lt hb1
                rw [← HT.out, Array.length_toList] at this
                exact this
              have HM2 : Hid (matchF t i ds = matchF t (i + (k + 1)) (ds.drop (k + 1))) := Lib.hid (by
                rw [HM.out, List.drop_eq_getElem_cons hkd, matchF, hy, if_pos hb1]
                rfl)
              clear hb1 hy hY
              go_wp2_with (go_at_call 56; refine HB.out.mono ?_; rintro e w4 ⟨rfl, h4⟩; have H4 := Lib.hid h4; clear h4)
              go_roundw
              case rel => exact ⟨k + 1, by go_num, by omega, by omega, H4, HM2⟩
              case measure => simp [intOf]; omega
            · have HB := Lib.hid (byte_no w0 wr b (i + k) m txt v o y Y hY HR.out hz hik (by rw [HT.out]; exact hb1))
              have HM2 : Hid (sF = (false, i + k, m, o)) := Lib.hid (by
                rw [HS.out, HM.out, List.drop_eq_getElem_cons hkd, matchF, hy, if_neg hb1]
                rfl)
              clear hb1 hy hY
              go_wp2_with (go_at_call 56; refine HB.out.mono ?_; rintro e w4 ⟨rfl, h4⟩; have H4 := Lib.hid h4; clear h4)
              go_ret
              refine (show PartP w0 b txt sF _ _ from ?_)
              rw [HM2.out]
              exact ⟨rfl, v, H4.out⟩
          · obtain rfl : k = D.size := by omega
            have HM2 : Hid (sF = (true, i + D.size, m + 1, o)) := Lib.hid (by
              rw [HS.out, HM.out, List.drop_of_length_le (by rw [← HDl.out, Array.length_toList]; exact Nat.le_refl _), matchF]
              rfl)
            have HN := Lib.hid (HR.out.set2 (m + 1))
            rw [show ((m + 1 : Nat) : Int) = (m : Int) + 1 by omega] at HN
            have c2 := HR.out.c2
            have f2 := HR.out.f 2
            go_wp2
            go_ret
            refine (show PartP w0 b txt sF _ _ from ?_)
            rw [HM2.out]
            exact ⟨rfl, v, HN.out⟩
      · have hlI : decide ((i : Int) < (txt.size : Int)) = false := by rw [decide_eq_false_iff_not]; omega
        have hlN : decide (i < txt.size) = false := decide_eq_false hlt
        go_enter Tryd.func48, Tryd.ntmps48
        go_wp2
        go_quiet (fail)
        clear hlI hlN
        obtain ⟨w1, hw1⟩ : ∃ w1, w.drewN nq = w1 := ⟨_, rfl⟩
        have h1 := HG.out nq
        rw [hw1] at h1 ⊢
        clear hw1
        have H1 := Lib.hid h1
        have c2 := h1.c2
        clear h1 c0 c1
        go_wp2_with (go_at_call 45; refine (HNm.out _).mono ?_; rintro e w2 ⟨rfl, hb⟩; have H2 := Lib.hid (H1.out.below hb); clear hb)
        go_loopw [7] (fun x wr => ∃ k : Nat, x = .int .i64 k ∧ k ≤ D.size ∧ i + k ≤ txt.size ∧ Hid (RdAt w0 wr b txt (i + k) m v o) ∧ Hid (matchF t i ds = matchF t (i + k) (ds.drop k))) (fun x _ => D.size - (intOf x).toNat)
        case atStart => exact ⟨0, rfl, by omega, by omega, H2, Lib.hid (by simp)⟩
        case round =>
          obtain ⟨k, rfl, hk, hik, HR, HM⟩ := hrel
          by_cases hkl : k < D.size
          · have hkd : k < ds.length := by rw [← HDl.out, Array.length_toList]; exact hkl
            have hDk : ∀ h : k < D.size, ((D[k]'h).toNat : Int) = ((ds[k]'hkd).toNat : Int) := fun h => by
              have : D[k]'h = D.data.toList[k]'(by rw [Array.length_toList]; exact h) := rfl
              rw [this]
              simp only [HDl.out]
            obtain ⟨y, hy⟩ : ∃ y, ds[k]'hkd = y := ⟨_, rfl⟩
            rw [hy] at hDk
            obtain ⟨Y, hY⟩ : ∃ Y : Int, (y.toNat : Int) = Y := ⟨_, rfl⟩
            rw [hY] at hDk
            have k0 : (0 : Int) ≤ (k : Int) := by omega
            have k1 : (k : Int) < (D.size : Int) := by omega
            by_cases hb1 : t[i + k]? = some y
            · have HB := Lib.hid (byte_yes w0 wr b (i + k) m txt v o y Y hY HR.out hz hik (by rw [HT.out]; exact hb1))
              have hsl : i + k < txt.size := by
                have := some_lt hb1
                rw [← HT.out, Array.length_toList] at this
                exact this
              have HM2 : Hid (matchF t i ds = matchF t (i + (k + 1)) (ds.drop (k + 1))) := Lib.hid (by
                rw [HM.out, List.drop_eq_getElem_cons hkd, matchF, hy, if_pos hb1]
                rfl)
              clear hb1 hy hY
              go_wp2_with (go_at_call 56; refine HB.out.mono ?_; rintro e w4 ⟨rfl, h4⟩; have H4 := Lib.hid h4; clear h4)
              go_roundw
              case rel => exact ⟨k + 1, by go_num, by omega, by omega, H4, HM2⟩
              case measure => simp [intOf]; omega
            · have HB := Lib.hid (byte_no w0 wr b (i + k) m txt v o y Y hY HR.out hz hik (by rw [HT.out]; exact hb1))
              have HM2 : Hid (sF = (false, i + k, m, o)) := Lib.hid (by
                rw [HS.out, HM.out, List.drop_eq_getElem_cons hkd, matchF, hy, if_neg hb1]
                rfl)
              clear hb1 hy hY
              go_wp2_with (go_at_call 56; refine HB.out.mono ?_; rintro e w4 ⟨rfl, h4⟩; have H4 := Lib.hid h4; clear h4)
              go_ret
              refine (show PartP w0 b txt sF _ _ from ?_)
              rw [HM2.out]
              exact ⟨rfl, v, H4.out⟩
          · obtain rfl : k = D.size := by omega
            have HM2 : Hid (sF = (true, i + D.size, m + 1, o)) := Lib.hid (by
              rw [HS.out, HM.out, List.drop_of_length_le (by rw [← HDl.out, Array.length_toList]; exact Nat.le_refl _), matchF]
              rfl)
            have HN := Lib.hid (HR.out.set2 (m + 1))
            rw [show ((m + 1 : Nat) : Int) = (m : Int) + 1 by omega] at HN
            have c2 := HR.out.c2
            have f2 := HR.out.f 2
            go_wp2
            go_ret
            refine (show PartP w0 b txt sF _ _ from ?_)
            rw [HM2.out]
            exact ⟨rfl, v, HN.out⟩
end Go.Proofs.YtcikcnkhcfhomaaDoor.Hand
/- Contracts: the document's Read. -/
namespace Go.Proofs.YtcikcnkhcfhomaaDoor.Hand
open Go.RowKit Go.Proofs.YtcikcnkhcfhomaaDoorW.PrintWords Go.Proofs.YtcikcnkhcfhomaaDoorW.PrintMore Go.Proofs.YtcikcnkhcfhomaaDoor.Math

theorem results_tmp4 {fn : Func} {t u v x : Tmp} (h : fn.results = #[.tmp t, .tmp u, .tmp v, .tmp x]) (tmps : Array Value) (P : Program) (w : World) :
    (results fn tmps).run P w = .ok (.tuple #[tmps.getD t undef, tmps.getD u undef, tmps.getD v undef, tmps.getD x undef]) w := by
  simp [results, h]
theorem readR_part (t : List UInt8) : readR t = if (partF t (t.length + 1) 0 0 0 []).1 = true then (if (partF t (t.length + 1) 0 0 0 []).2.1 < t.length then .bad (partF t (t.length + 1) 0 0 0 []).2.1 else .ok (partF t (t.length + 1) 0 0 0 []).2.2.1 (partF t (t.length + 1) 0 0 0 []).2.2.2) else .bad (partF t (t.length + 1) 0 0 0 []).2.1 := rfl
/-- What the document's Read leaves. -/
def RefP (w0 : World) (txt : ByteArray) (e : Ending) (w' : World) : Prop :=
  ∃ v, e = .returned (.tuple #[.int .i64 (rdM txt : Nat), v, .int .i64 (rdE txt : Nat), .int .i64 (rdP txt)]) ∧ RC (Kd.int .i64) 3 w' w0.heap.size v (rdO txt) ∧ Below w0.heap.size w0 w'
set_option maxHeartbeats 2000000 in
set_option maxRecDepth 100000 in
theorem refRead_calls (txt : ByteArray) (w : World) : Calls Tryd.prog 31 #[.string txt] w (RefP w txt) := by
  by_cases hz : 1048576 < txt.size
  · have hr : rdR txt = none := by unfold rdR; rw [if_pos hz]
    have HN : Hid (rdM txt = 0 ∧ rdO txt = [] ∧ rdE txt = 1 ∧ rdP txt = -1) := Lib.hid ⟨by unfold rdM; rw [hr], by unfold rdO; rw [hr], by unfold rdE; rw [hr], by unfold rdP; rw [hr]⟩
    have hzI : (1048576 : Int) < (txt.size : Int) := by omega
    clear hr hz
    go_enter Tryd.func31, Tryd.ntmps31
    go_wp2
    ((try simp only [Exit.inBlock, Exit.then]); refine bodyPost_ret (results_tmp4 rfl _ _ _) rfl ?_)
    refine (show RefP w txt _ _ from ?_)
    obtain ⟨h1, h2, h3, h4⟩ := HN.out
    unfold RefP
    rw [h1, h2, h3, h4]
    exact ⟨_, rfl, RC.nil, Below.refl _ _⟩
  · have hzI : ¬ (1048576 : Int) < (txt.size : Int) := by omega
    have hzN : txt.size ≤ 1048576 := by omega
    have hr : rdR txt = some (readR txt.data.toList) := by unfold rdR; rw [if_neg hz]
    have h0 : RdAt w (w.alloc (.cells #[.string txt, .int .i64 0, .int .i64 0, .slice none 0 0] 80)) w.heap.size txt 0 0 (.slice none 0 0) [] :=
      ⟨by simp [go_sem], by simp [go_sem], by simp [go_sem], by simp [go_sem], fun k => by simp [go_sem], Kd.R_nil _ _ _ _ _, below_alloc (Below.refl _ _) _, Nat.le_refl _⟩
    have hp := part_calls w w.heap.size txt hzN (txt.data.toList.length + 1) 0 0 0 _ [] _ (by rw [Array.length_toList]; show txt.size < 0 + (txt.size + 1); omega) (by omega) (by omega) (by omega) (by simp) h0
    have HP := Lib.hid hp
    have HRd := Lib.hid (readR_part txt.data.toList)
    have hl : txt.data.toList.length = txt.size := by rw [Array.length_toList]; rfl
    rcases hs : partF txt.data.toList (txt.data.toList.length + 1) 0 0 0 [] with ⟨b1, a1, m1, o1⟩
    rw [hs] at HP HRd
    simp only [hl] at HRd
    have HR := Lib.hid hr
    clear hr h0 hp hs hz hl
    go_enter Tryd.func31, Tryd.ntmps31
    go_upto_region 5 with (go_at_call 48; refine HP.out.mono ?_; rintro e w2 ⟨rfl, v2, h2⟩; have H2 := Lib.hid h2; clear h2)
    obtain ⟨hc1, hc2, hc3⟩ : w2.cell? ⟨w.heap.size, 1, none⟩ = some (.int .i64 (a1 : Int)) ∧ w2.cell? ⟨w.heap.size, 2, none⟩ = some (.int .i64 (m1 : Int)) ∧ w2.cell? ⟨w.heap.size, 3, none⟩ = some v2 := ⟨H2.out.c1, H2.out.c2, H2.out.c3⟩
    have HV2 : Hid (RC (Kd.int .i64) 3 w2 w.heap.size v2 (oI o1)) := Lib.hid (RC.of_R (Kd.R_mono H2.out.own (fun _ _ => trivial)))
    have HB2 := Lib.hid H2.out.bel
    cases b1 with
    | false =>
      have HN : Hid (rdM txt = 0 ∧ rdO txt = [] ∧ rdE txt = 2 ∧ rdP txt = (a1 : Int)) := Lib.hid (by
        have h1 := HRd.out
        simp at h1
        have h2 := HR.out
        rw [h1] at h2
        exact ⟨by unfold rdM; rw [h2], by unfold rdO; rw [h2], by unfold rdE; rw [h2], by unfold rdP; rw [h2]⟩)
      go_upto_region 6 with (fail)
      go_region
      go_wp2
      ((try simp only [Exit.inBlock, Exit.then]); refine bodyPost_ret (results_tmp4 rfl _ _ _) rfl ?_)
      refine (show RefP w txt _ _ from ?_)
      obtain ⟨h1, h2, h3, h4⟩ := HN.out
      unfold RefP
      rw [h1, h2, h3, h4]
      exact ⟨_, rfl, RC.nil, below_drew HB2.out⟩
    | true =>
      by_cases hlt : a1 < txt.size
      · have HN : Hid (rdM txt = 0 ∧ rdO txt = [] ∧ rdE txt = 2 ∧ rdP txt = (a1 : Int)) := Lib.hid (by
          have h1 := HRd.out
          simp [hlt] at h1
          have h2 := HR.out
          rw [h1] at h2
          exact ⟨by unfold rdM; rw [h2], by unfold rdO; rw [h2], by unfold rdE; rw [h2], by unfold rdP; rw [h2]⟩)
        go_upto_region 6 with (fail)
        go_region
        go_wp2
        ((try simp only [Exit.inBlock, Exit.then]); refine bodyPost_ret (results_tmp4 rfl _ _ _) rfl ?_)
        refine (show RefP w txt _ _ from ?_)
        obtain ⟨h1, h2, h3, h4⟩ := HN.out
        unfold RefP
        rw [h1, h2, h3, h4]
        exact ⟨_, rfl, RC.nil, below_drew HB2.out⟩
      · have HN : Hid (rdM txt = m1 ∧ rdO txt = oI o1 ∧ rdE txt = 0 ∧ rdP txt = -1) := Lib.hid (by
          have h1 := HRd.out
          simp [hlt] at h1
          have h2 := HR.out
          rw [h1] at h2
          exact ⟨by unfold rdM; rw [h2], by unfold rdO; rw [h2], by unfold rdE; rw [h2], by unfold rdP; rw [h2]⟩)
        go_upto_region 7 with (fail)
        go_region
        go_wp2
        ((try simp only [Exit.inBlock, Exit.then]); refine bodyPost_ret (results_tmp4 rfl _ _ _) rfl ?_)
        refine (show RefP w txt _ _ from ?_)
        obtain ⟨h1, h2, h3, h4⟩ := HN.out
        unfold RefP
        rw [h1, h2, h3, h4]
        exact ⟨v2, rfl, HV2.out.below (below_drew (Below.refl _ _)), below_drew HB2.out⟩
end Go.Proofs.YtcikcnkhcfhomaaDoor.Hand
/- errors.As of a place's error, of a sentinel, of nil; dovetailkit.Place. (The steps are those of a worked proof, turned to this program.) -/
namespace Go.Proofs.YtcikcnkhcfhomaaDoor.Hand
open Go.RowKit Go.Proofs.YtcikcnkhcfhomaaDoorW.PrintWords Go.Proofs.YtcikcnkhcfhomaaDoorW.PrintMore Go.Proofs.YtcikcnkhcfhomaaDoor.Math
open Go.Extern.Stop Go.Stop Go.Extern

theorem asP_nil (t : Value) (w : World) :
    Calls Tryd.prog 49 #[.nilIface, t] w fun e w' => e = .returned (.bool false) ∧ w' = w := by
  go_enter Tryd.func49, Tryd.ntmps49
  go_wp2
  go_ret
  exact ⟨rfl, rfl⟩
/-! ### CLOSED FACTS ON THE MODEL's ENTRIES FOR internal/reflectlite, at this program's types: 25: *p.E · 27: **p.E · 23: error · 45: reflectlite's rtype · 1: how many package-level variables the dump has -/
theorem asP_valueOf27 (t : Addr) (w : World) : (ReflectliteValue.unpack (.iface 82 (.pointer (some t)))).run Tryd.prog w
    = .ok (.agg #[.pointer (some ⟨19, 82, none⟩), .pointer (some ⟨w.heap.size, 0, none⟩), .int .u64 150]) (w.alloc (.cells #[.pointer (some t)] 82)) := by kernel_rfl
theorem asP_type27 (a : Addr) (w : World) : (ReflectliteValue.methodAny (ReflectliteValue.valueError "reflectlite.Value.Type" 0) (fun t _ _ _ => ReflectliteType.toType t) #[.agg #[.pointer (some ⟨19, 82, none⟩), .pointer (some a), .int .u64 150]]).run Tryd.prog w
    = .ok (.iface 103 (.agg #[.pointer (some ⟨19, 82, none⟩)])) w := by kernel_rfl
theorem asP_methodKind (h : Value) (w : World) : (Go.method 266 103 (.agg #[h]) "Kind").run Tryd.prog w = .ok (89, h) w := by kernel_rfl
theorem asP_kind27 (w : World) : ((ReflectliteType.abiMethod fun t => (fun a : Nat => Value.int IntKind.u8 (a : Int)) <$> Rtype.kind t) #[.pointer (some ⟨19, 82, none⟩)]).run Tryd.prog w = .ok (.int .u8 22) w := by kernel_rfl
theorem asP_kind25 (w : World) : ((ReflectliteType.abiMethod fun t => (fun a : Nat => Value.int IntKind.u8 (a : Int)) <$> Rtype.kind t) #[.pointer (some ⟨19, 70, none⟩)]).run Tryd.prog w = .ok (.int .u8 22) w := by kernel_rfl

/-! ### THE ENTRIES THAT READ OR WRITE MEMORY: laws with a premise on the cell (after Derived/Lib/ReflectliteSlice.lean's manner: each unfolding a lemma of its own, by rfl) -/
theorem asP_rlm (z : Sem Value) (f : TypeId → Addr → Nat → Nat → Sem Value) (v : Value) :
    ReflectliteValue.method z f #[v] = (do match ← ReflectliteValue.parts v with | none => z | some (t, a, fl) => f t a fl (fl % 32)) := rfl
theorem asP_parts27 (a : Addr) (w : World) : (ReflectliteValue.parts (.agg #[.pointer (some ⟨19, 82, none⟩), .pointer (some a), .int .u64 150])).run Tryd.prog w = .ok (some (82, a, 150)) w := by kernel_rfl
/-- (Value).IsNil at the Value of a **p.E that is not nil. -/
theorem asP_isNil27 (a p : Addr) (W : World) (ha : W.cell? a = some (.pointer (some p))) :
    (ReflectliteValue.method (ReflectliteValue.valueError "reflectlite.Value.IsNil" 0) ReflectliteValue.isNil #[.agg #[.pointer (some ⟨19, 82, none⟩), .pointer (some a), .int .u64 150]]).run Tryd.prog W = .ok (.bool false) W := by
  rw [asP_rlm]
  simp only [Sem.run_bind, asP_parts27, Result.andThen]
  simp [ReflectliteValue.isNil, loadVar, isAgg, underlying, Tryd.underlying82, ha, Result.andThen]

theorem asP_methodElem (h : Value) (w : World) : (Go.method 266 103 (.agg #[h]) "Elem").run Tryd.prog w = .ok (100, .agg #[h]) w := by kernel_rfl
theorem asP_methodImplements (h : Value) (w : World) : (Go.method 266 103 (.agg #[h]) "Implements").run Tryd.prog w = .ok (101, .agg #[h]) w := by kernel_rfl
theorem asP_methodAssignableTo (h : Value) (w : World) : (Go.method 266 103 (.agg #[h]) "AssignableTo").run Tryd.prog w = .ok (98, .agg #[h]) w := by kernel_rfl
theorem asP_elem27 (w : World) : (ReflectliteType.method ReflectliteType.elem #[.agg #[.pointer (some ⟨19, 82, none⟩)]]).run Tryd.prog w = .ok (.iface 103 (.agg #[.pointer (some ⟨19, 70, none⟩)])) w := by kernel_rfl
theorem asP_implements25 (w : World) : (ReflectliteType.relation "Implements" ReflectliteType.implements_ #[.agg #[.pointer (some ⟨19, 70, none⟩)], .iface 103 (.agg #[.pointer (some ⟨19, 25, none⟩)])]).run Tryd.prog w = .ok (.bool true) w := by kernel_rfl
theorem asP_typeOf25 (v : Value) (w : World) : (ReflectliteType.typeOf #[.iface 70 v]).run Tryd.prog w = .ok (.iface 103 (.agg #[.pointer (some ⟨19, 70, none⟩)])) w := by kernel_rfl
theorem asP_assignable25 (w : World) : (ReflectliteType.relation "AssignableTo" ReflectliteType.assignableTo #[.agg #[.pointer (some ⟨19, 70, none⟩)], .iface 103 (.agg #[.pointer (some ⟨19, 70, none⟩)])]).run Tryd.prog w = .ok (.bool true) w := by kernel_rfl
theorem asP_valueOf25 (e : Addr) (w : World) : (ReflectliteValue.unpack (.iface 70 (.pointer (some e)))).run Tryd.prog w
    = .ok (.agg #[.pointer (some ⟨19, 70, none⟩), .pointer (some ⟨w.heap.size, 0, none⟩), .int .u64 150]) (w.alloc (.cells #[.pointer (some e)] 70)) := by kernel_rfl

theorem asP_elemOf27 (w : World) : (Rtype.elem? 82).run Tryd.prog w = .ok (some 70) w := by kernel_rfl
theorem asP_mk25 (p : Addr) (w : World) : (ReflectliteValue.mk 70 p ReflectliteValue.flagAddr).run Tryd.prog w = .ok (.agg #[.pointer (some ⟨19, 70, none⟩), .pointer (some p), .int .u64 406]) w := by kernel_rfl
/-- (Value).Elem at the Value of a **p.E that is not nil: the Value of the *p.E variable that it points to, addressable. -/
theorem asP_elemV27 (a p : Addr) (W : World) (ha : W.cell? a = some (.pointer (some p))) :
    (ReflectliteValue.method (ReflectliteValue.valueError "reflectlite.Value.Elem" 0) ReflectliteValue.elem #[.agg #[.pointer (some ⟨19, 82, none⟩), .pointer (some a), .int .u64 150]]).run Tryd.prog W
      = .ok (.agg #[.pointer (some ⟨19, 70, none⟩), .pointer (some p), .int .u64 406]) W := by
  rw [asP_rlm]
  simp only [Sem.run_bind, asP_parts27, Result.andThen]
  simp [ReflectliteValue.elem, loadVar, isAgg, underlying, Tryd.underlying82, ha, Result.andThen, asP_elemOf27, asP_mk25]
theorem asP_rls (v x : Value) : ReflectliteValue.set #[v, x] = (do
    let (some (dst, a, fl), some (src, b, _)) := (← ReflectliteValue.parts v, ← ReflectliteValue.parts x)
      | unsupported (.noEntry "extern/(internal/reflectlite.Value).Set.zeroValue")
    if fl / ReflectliteValue.flagAddr % 2 == 0 then unsupported (.noEntry "extern/(internal/reflectlite.Value).Set.unaddressable")
    let val ← loadVar src b
    if ← Rtype.directlyAssignable dst src then storeVar dst a val
    else if ← Rtype.implements dst src then
      if (← Rtype.kind src) == 20 then
        match val with
        | .nilIface => unsupported (.noEntry "extern/reflectlite: a nil value of one interface type handed on as a value of another")
        | _ => storeVar dst a val
      else storeVar dst a (.iface src val)
    else panicString ("reflectlite.Set: value of type " ++ (← Rtype.spelt src) ++ " is not assignable to type " ++ (← Rtype.spelt dst))
    pure (.tuple #[])) := rfl
theorem asP_parts25a (a : Addr) (w : World) : (ReflectliteValue.parts (.agg #[.pointer (some ⟨19, 70, none⟩), .pointer (some a), .int .u64 406])).run Tryd.prog w = .ok (some (70, a, 406)) w := by kernel_rfl
theorem asP_parts25 (a : Addr) (w : World) : (ReflectliteValue.parts (.agg #[.pointer (some ⟨19, 70, none⟩), .pointer (some a), .int .u64 150])).run Tryd.prog w = .ok (some (70, a, 150)) w := by kernel_rfl
theorem asP_direct25 (w : World) : (Rtype.directlyAssignable 70 70).run Tryd.prog w = .ok true w := by kernel_rfl
theorem asP_size25 (w : World) : (sizeOf 70).run Tryd.prog w = .ok 1 w := by kernel_rfl
/-- (Value).Set: the *p.E variable at 'ta' gets what the Value's own variable 'b' holds. -/
theorem asP_set25 (ta b e : Addr) (old : Value) (W : World) (hb : W.cell? b = some (.pointer (some e))) (ht : W.cell? ta = some old) (hf : W.frozen? ta = false) :
    (ReflectliteValue.set #[.agg #[.pointer (some ⟨19, 70, none⟩), .pointer (some ta), .int .u64 406], .agg #[.pointer (some ⟨19, 70, none⟩), .pointer (some b), .int .u64 150]]).run Tryd.prog W
      = .ok (.tuple #[]) (W.setCell ta (.pointer (some e))) := by
  rw [asP_rls]
  simp only [Sem.run_bind, asP_parts25a, asP_parts25, Result.andThen]
  simp [ReflectliteValue.flagAddr, loadVar, isAgg, underlying, Tryd.underlying70, hb, Result.andThen, asP_direct25, storeVar, Value.cells, storeCells, Addr.add]
  rw [run_store Tryd.prog W ta _ _ (by rfl)]
  simp [ht, hf]

set_option maxHeartbeats 4000000 in
theorem asP_hit (e t : Addr) (old : Value) (w : World) (hg : w.cell? ⟨15, 0, none⟩ = some (.iface 103 (.agg #[.pointer (some ⟨19, 25, none⟩)]))) (ht0 : w.cell? t = some old) (hf0 : w.frozen? t = false) :
    Calls Tryd.prog 49 #[.iface 70 (.pointer (some e)), .iface 82 (.pointer (some t))] w fun ev w' => ev = .returned (.bool true) ∧ w' = ((((w.alloc (.cells #[.pointer (some t)] 82)).alloc (.cells #[.pointer (some ⟨19, 82, none⟩), .pointer (some ⟨w.heap.size, 0, none⟩), .int .u64 150] 95)).alloc (.cells #[.pointer (some ⟨19, 82, none⟩), .pointer (some ⟨w.heap.size, 0, none⟩), .int .u64 150] 95)).alloc (.cells #[.pointer (some e)] 70)).setCell t (.pointer (some e)) := by
  have h6 := @run_callFunc_extern Tryd.prog 57 _ (fun args => ReflectliteValue.unpack (args.getD 0 (.tuple #[]))) Tryd.func57 (by kernel_rfl) (by kernel_rfl) (by kernel_rfl) (by kernel_rfl)
  have h7 := @run_callFunc_extern Tryd.prog 58 _ (ReflectliteValue.methodAny (ReflectliteValue.valueError "reflectlite.Value.Type" 0) (fun t _ _ _ => ReflectliteType.toType t)) Tryd.func58 (by kernel_rfl) (by kernel_rfl) (by kernel_rfl) (by kernel_rfl)
  have h8 := @run_callFunc_extern Tryd.prog 59 _ (ReflectliteValue.method (ReflectliteValue.valueError "reflectlite.Value.IsNil" 0) ReflectliteValue.isNil) Tryd.func59 (by kernel_rfl) (by kernel_rfl) (by kernel_rfl) (by kernel_rfl)
  have h27 := @run_callFunc_extern Tryd.prog 89 _ (ReflectliteType.abiMethod fun t => do pure (.int .u8 (← Rtype.kind t))) Tryd.func89 (by kernel_rfl) (by kernel_rfl) (by kernel_rfl) (by kernel_rfl)
  have h37 := @run_callFunc_extern Tryd.prog 100 _ (ReflectliteType.method ReflectliteType.elem) Tryd.func100 (by kernel_rfl) (by kernel_rfl) (by kernel_rfl) (by kernel_rfl)
  have h38 := @run_callFunc_extern Tryd.prog 101 _ (ReflectliteType.relation "Implements" ReflectliteType.implements_) Tryd.func101 (by kernel_rfl) (by kernel_rfl) (by kernel_rfl) (by kernel_rfl)
  have h10 := @run_callFunc_extern Tryd.prog 52 _ ReflectliteType.typeOf Tryd.func52 (by kernel_rfl) (by kernel_rfl) (by kernel_rfl) (by kernel_rfl)
  have h35 := @run_callFunc_extern Tryd.prog 98 _ (ReflectliteType.relation "AssignableTo" ReflectliteType.assignableTo) Tryd.func98 (by kernel_rfl) (by kernel_rfl) (by kernel_rfl) (by kernel_rfl)
  have h11 := @run_callFunc_extern Tryd.prog 62 _ (ReflectliteValue.method (ReflectliteValue.valueError "reflectlite.Value.Elem" 0) ReflectliteValue.elem) Tryd.func62 (by kernel_rfl) (by kernel_rfl) (by kernel_rfl) (by kernel_rfl)
  have h12 := @run_callFunc_extern Tryd.prog 63 _ ReflectliteValue.set Tryd.func63 (by kernel_rfl) (by kernel_rfl) (by kernel_rfl) (by kernel_rfl)
  have tO := asP_typeOf25
  have mA := asP_methodAssignableTo
  have a25 := asP_assignable25
  have v25 := asP_valueOf25
  have f6 := asP_valueOf27
  have f7 := asP_type27
  have mK := asP_methodKind
  have mE := asP_methodElem
  have mI := asP_methodImplements
  have k27 := asP_kind27
  have k25 := asP_kind25
  have e27 := asP_elem27
  have i25 := asP_implements25
  have n8 := asP_isNil27 ⟨w.heap.size, 0, none⟩ t ((w.alloc (.cells #[.pointer (some t)] 82)).alloc (.cells #[.pointer (some ⟨19, 82, none⟩), .pointer (some ⟨w.heap.size, 0, none⟩), .int .u64 150] 95)) (by simp)
  have hlt : 15 < w.heap.size := by
    rcases Nat.lt_or_ge 15 w.heap.size with h | h0
    · exact h
    · simp [World.cell?, Array.getElem?_eq_none h0] at hg
  have hg2 : ((w.alloc (.cells #[.pointer (some t)] 82)).alloc (.cells #[.pointer (some ⟨19, 82, none⟩), .pointer (some ⟨w.heap.size, 0, none⟩), .int .u64 150] 95)).cell? ⟨15, 0, none⟩ = some (.iface 103 (.agg #[.pointer (some ⟨19, 25, none⟩)])) := by
    rw [World.cell?_alloc_lt _ _ ⟨15, 0, none⟩ (by simp; omega), World.cell?_alloc_lt _ _ ⟨15, 0, none⟩ hlt]; exact hg
  have htl : t.block < w.heap.size := by
    rcases Nat.lt_or_ge t.block w.heap.size with h | h
    · exact h
    · simp [World.cell?, Array.getElem?_eq_none h] at ht0
  have el := asP_elemV27 ⟨w.heap.size, 0, none⟩ t (((w.alloc (.cells #[.pointer (some t)] 82)).alloc (.cells #[.pointer (some ⟨19, 82, none⟩), .pointer (some ⟨w.heap.size, 0, none⟩), .int .u64 150] 95)).alloc (.cells #[.pointer (some ⟨19, 82, none⟩), .pointer (some ⟨w.heap.size, 0, none⟩), .int .u64 150] 95)) (by rw [World.cell?_alloc_lt _ _ ⟨w.heap.size, 0, none⟩ (by simp; omega)]; simp)
  have st := asP_set25 t ⟨w.heap.size + 1 + 1 + 1, 0, none⟩ e old ((((w.alloc (.cells #[.pointer (some t)] 82)).alloc (.cells #[.pointer (some ⟨19, 82, none⟩), .pointer (some ⟨w.heap.size, 0, none⟩), .int .u64 150] 95)).alloc (.cells #[.pointer (some ⟨19, 82, none⟩), .pointer (some ⟨w.heap.size, 0, none⟩), .int .u64 150] 95)).alloc (.cells #[.pointer (some e)] 70))
    (by rw [World.cell?_alloc_at _ _ _ _ (by simp)]; rfl)
    (by rw [World.cell?_alloc_lt _ _ t (by simp; omega), World.cell?_alloc_lt _ _ t (by simp; omega), World.cell?_alloc_lt _ _ t (by simp; omega), World.cell?_alloc_lt _ _ t htl]; exact ht0)
    (by rw [World.frozen?_alloc_old _ _ t (by simp; omega), World.frozen?_alloc_old _ _ t (by simp; omega), World.frozen?_alloc_old _ _ t (by simp; omega), World.frozen?_alloc_old _ _ t (Nat.ne_of_lt htl)]; exact hf0)
  go_enter Tryd.func49, Tryd.ntmps49
  go_wp2
  refine wp_loop_rounds 1 ?_
  rw [rounds_succ]
  go_wp2
  go_ret
  exact ⟨rfl, rfl⟩
theorem asP_typeOfS (v : Value) (w : World) : (ReflectliteType.typeOf #[.iface 133 v]).run Tryd.prog w = .ok (.iface 103 (.agg #[.pointer (some ⟨19, 133, none⟩)])) w := by kernel_rfl
theorem asP_assignableS (w : World) : (ReflectliteType.relation "AssignableTo" ReflectliteType.assignableTo #[.agg #[.pointer (some ⟨19, 133, none⟩)], .iface 103 (.agg #[.pointer (some ⟨19, 70, none⟩)])]).run Tryd.prog w = .ok (.bool false) w := by kernel_rfl
theorem asP_noAs (v : Value) (xT : TypeId) (w : World) : (Instr.typeAssert (.iface 133 v) xT 115 true).run Tryd.prog w = .ok (.tuple #[.nilIface, .bool false]) w := run_typeAssert_lacksB Tryd.underlying115 (by kernel_rfl) (by kernel_rfl) v xT w
set_option maxHeartbeats 4000000 in
theorem asP_sent (e t : Addr) (w : World) (hg : w.cell? ⟨15, 0, none⟩ = some (.iface 103 (.agg #[.pointer (some ⟨19, 25, none⟩)]))) (_htl : t.block < w.heap.size) :
    Calls Tryd.prog 49 #[.iface 133 (.pointer (some e)), .iface 82 (.pointer (some t))] w fun ev w' => ev = .returned (.bool false) ∧ Below w.heap.size w w' := by
  have h6 := @run_callFunc_extern Tryd.prog 57 _ (fun args => ReflectliteValue.unpack (args.getD 0 (.tuple #[]))) Tryd.func57 (by kernel_rfl) (by kernel_rfl) (by kernel_rfl) (by kernel_rfl)
  have h7 := @run_callFunc_extern Tryd.prog 58 _ (ReflectliteValue.methodAny (ReflectliteValue.valueError "reflectlite.Value.Type" 0) (fun t _ _ _ => ReflectliteType.toType t)) Tryd.func58 (by kernel_rfl) (by kernel_rfl) (by kernel_rfl) (by kernel_rfl)
  have h8 := @run_callFunc_extern Tryd.prog 59 _ (ReflectliteValue.method (ReflectliteValue.valueError "reflectlite.Value.IsNil" 0) ReflectliteValue.isNil) Tryd.func59 (by kernel_rfl) (by kernel_rfl) (by kernel_rfl) (by kernel_rfl)
  have h27 := @run_callFunc_extern Tryd.prog 89 _ (ReflectliteType.abiMethod fun t => do pure (.int .u8 (← Rtype.kind t))) Tryd.func89 (by kernel_rfl) (by kernel_rfl) (by kernel_rfl) (by kernel_rfl)
  have h37 := @run_callFunc_extern Tryd.prog 100 _ (ReflectliteType.method ReflectliteType.elem) Tryd.func100 (by kernel_rfl) (by kernel_rfl) (by kernel_rfl) (by kernel_rfl)
  have h38 := @run_callFunc_extern Tryd.prog 101 _ (ReflectliteType.relation "Implements" ReflectliteType.implements_) Tryd.func101 (by kernel_rfl) (by kernel_rfl) (by kernel_rfl) (by kernel_rfl)
  have h10 := @run_callFunc_extern Tryd.prog 52 _ ReflectliteType.typeOf Tryd.func52 (by kernel_rfl) (by kernel_rfl) (by kernel_rfl) (by kernel_rfl)
  have h35 := @run_callFunc_extern Tryd.prog 98 _ (ReflectliteType.relation "AssignableTo" ReflectliteType.assignableTo) Tryd.func98 (by kernel_rfl) (by kernel_rfl) (by kernel_rfl) (by kernel_rfl)
  have tO := asP_typeOfS
  have mA := asP_methodAssignableTo
  have a25 := asP_assignableS
  have nE := asP_noAs
  have uE := noUnwrapE
  have vE := noUnwrapsE
  have f6 := asP_valueOf27
  have f7 := asP_type27
  have mK := asP_methodKind
  have mE := asP_methodElem
  have mI := asP_methodImplements
  have k27 := asP_kind27
  have k25 := asP_kind25
  have e27 := asP_elem27
  have i25 := asP_implements25
  have n8 := asP_isNil27 ⟨w.heap.size, 0, none⟩ t ((w.alloc (.cells #[.pointer (some t)] 82)).alloc (.cells #[.pointer (some ⟨19, 82, none⟩), .pointer (some ⟨w.heap.size, 0, none⟩), .int .u64 150] 95)) (by simp)
  have hlt : 15 < w.heap.size := by
    rcases Nat.lt_or_ge 15 w.heap.size with h | h0
    · exact h
    · simp [World.cell?, Array.getElem?_eq_none h0] at hg
  have hg2 : ((w.alloc (.cells #[.pointer (some t)] 82)).alloc (.cells #[.pointer (some ⟨19, 82, none⟩), .pointer (some ⟨w.heap.size, 0, none⟩), .int .u64 150] 95)).cell? ⟨15, 0, none⟩ = some (.iface 103 (.agg #[.pointer (some ⟨19, 25, none⟩)])) := by
    rw [World.cell?_alloc_lt _ _ ⟨15, 0, none⟩ (by simp; omega), World.cell?_alloc_lt _ _ ⟨15, 0, none⟩ hlt]; exact hg
  go_enter Tryd.func49, Tryd.ntmps49
  go_wp2
  refine wp_loop_rounds 1 ?_
  rw [rounds_succ]
  go_wp2
  go_ret
  exact ⟨rfl, below_alloc (below_alloc (below_alloc (Below.refl _ _) _) _) _⟩
/-- The handle of the type error, as package errors keeps it. -/
def ErrTy (w : World) : Prop := w.cell? ⟨15, 0, none⟩ = some (.iface 103 (.agg #[.pointer (some ⟨19, 25, none⟩)]))
theorem ErrTy.below {w w' : World} (h : ErrTy w) (hb : Below w.heap.size w w') : ErrTy w' := (hb.cell (World.block_lt_of_cell? w _ h)).trans h
theorem place_nil (w : World) : Calls Tryd.prog 32 #[.nilIface] w fun e w' => e = .returned (.int .i64 (-1)) ∧ Below w.heap.size w w' := by
  go_enter Tryd.func32, Tryd.ntmps32
  go_wp2_with (go_at_call 49; refine (asP_nil _ _).mono ?_; rintro e w1 ⟨rfl, rfl⟩)
  go_ret
  exact ⟨rfl, below_alloc (Below.refl _ _) _⟩
theorem place_sent (a : Addr) (w : World) (hT : ErrTy w) : Calls Tryd.prog 32 #[.iface 133 (.pointer (some a))] w fun e w' => e = .returned (.int .i64 (-1)) ∧ Below w.heap.size w w' := by
  have hT1 := hT.below (below_alloc (Below.refl _ _) (.cells #[.pointer none] 70))
  have HA := Lib.hid (asP_sent a ⟨w.heap.size, 0, none⟩ _ hT1 (by simp))
  clear hT hT1
  go_enter Tryd.func32, Tryd.ntmps32
  go_wp2_with (go_at_call 49; refine HA.out.mono ?_; rintro e w1 ⟨rfl, hb⟩; have HB := Lib.hid (below_next (below_alloc (Below.refl w.heap.size w) _) hb); clear hb)
  go_ret
  exact ⟨rfl, HB.out⟩
theorem place_place (pb po : Nat) (i : Int) (w : World) (hT : ErrTy w) (hc : w.cell? ⟨pb, po, none⟩ = some (.int .i64 i)) : Calls Tryd.prog 32 #[.iface 70 (.pointer (some ⟨pb, po, none⟩))] w fun e w' => e = .returned (.int .i64 i) ∧ Below w.heap.size w w' := by
  have hT1 := hT.below (below_alloc (Below.refl _ _) (.cells #[.pointer none] 70))
  obtain ⟨w1, hw1⟩ : ∃ w1, w.alloc (.cells #[.pointer none] 70) = w1 := ⟨_, rfl⟩
  have hb1 : Below w.heap.size w w1 := by rw [← hw1]; exact below_alloc (Below.refl _ _) _
  have ht0 : w1.cell? ⟨w.heap.size, 0, none⟩ = some (.pointer none) := by rw [← hw1]; simp
  have hf0 : w1.frozen? ⟨w.heap.size, 0, none⟩ = false := by rw [← hw1]; simp
  have hs1 : w.heap.size < w1.heap.size := by rw [← hw1]; simp
  have hpl := World.block_lt_of_cell? w _ hc
  rw [hw1] at hT1
  have hc1 := (hb1.cell hpl).trans hc
  have HA : Hid (Calls Tryd.prog 49 #[.iface 70 (.pointer (some ⟨pb, po, none⟩)), .iface 82 (.pointer (some ⟨w.heap.size, 0, none⟩))] w1 fun ev w' => ev = .returned (.bool true) ∧ w'.cell? ⟨w.heap.size, 0, none⟩ = some (.pointer (some ⟨pb, po, none⟩)) ∧ w'.cell? ⟨pb, po, none⟩ = some (.int .i64 i) ∧ Below w.heap.size w w') := Lib.hid ((asP_hit ⟨pb, po, none⟩ ⟨w.heap.size, 0, none⟩ (.pointer none) w1 hT1 ht0 hf0).mono (by
    rintro e w' ⟨rfl, rfl⟩
    obtain ⟨w2, hw2⟩ : ∃ w2, ((((w1.alloc (.cells #[.pointer (some ⟨w.heap.size, 0, none⟩)] 82)).alloc (.cells #[.pointer (some ⟨19, 82, none⟩), .pointer (some ⟨w1.heap.size, 0, none⟩), .int .u64 150] 95)).alloc (.cells #[.pointer (some ⟨19, 82, none⟩), .pointer (some ⟨w1.heap.size, 0, none⟩), .int .u64 150] 95)).alloc (.cells #[.pointer (some ⟨pb, po, none⟩)] 70)) = w2 := ⟨_, rfl⟩
    have hb2 : Below w1.heap.size w1 w2 := by rw [← hw2]; exact below_alloc (below_alloc (below_alloc (below_alloc (Below.refl _ _) _) _) _) _
    rw [hw2]
    have ht2 := (hb2.cell hs1).trans ht0
    refine ⟨rfl, World.cell?_setCell_same _ _ _ ht2, ?_, (below_next hb1 hb2).setCell (Nat.le_refl _) _⟩
    rw [World.cell?_setCell_other _ _ _ _ (by intro h; injection h with h; have hpl' : pb < w.heap.size := hpl; omega)]
    exact (hb2.cell (Nat.lt_trans hpl hs1)).trans hc1))
  have HW1 := Lib.hid hw1
  clear hT hT1 hb1 ht0 hf0 hs1 hpl hc1 hc hw1
  go_enter Tryd.func32, Tryd.ntmps32
  go_wp2_with (go_at_call 49; rw [HW1.out]; refine HA.out.mono ?_; rintro e w3 ⟨rfl, h1, h2, hb⟩; have HB := Lib.hid hb; clear hb)
  go_ret
  exact ⟨rfl, HB.out⟩
end Go.Proofs.YtcikcnkhcfhomaaDoor.Hand
/- A slice's head; lists by their elements. -/
namespace Go.Proofs.YtcikcnkhcfhomaaDoor.Hand
open Go.RowKit Go.Proofs.YtcikcnkhcfhomaaDoorW.PrintWords Go.Proofs.YtcikcnkhcfhomaaDoorW.PrintMore Go.Proofs.YtcikcnkhcfhomaaDoor.Math

theorem list_of {α : Type} {p : Nat → α → Prop} : ∀ {n : Nat} (_ : ∀ i, i < n → ∃ x, p i x), ∃ l : List α, l.length = n ∧ ∀ i x, l[i]? = some x → p i x
  | 0, _ => ⟨[], rfl, fun i x h => by simp at h⟩
  | n + 1, h => by
    obtain ⟨l, hl, hp⟩ := list_of (n := n) (fun i hi => h i (by omega))
    obtain ⟨x, hx⟩ := h n (by omega)
    refine ⟨l ++ [x], by simp [hl], fun i y hy => ?_⟩
    rcases Nat.lt_or_ge i l.length with hi | hi
    · rw [List.getElem?_append_left hi] at hy; exact hp i y hy
    · rw [List.getElem?_append_right hi] at hy
      have h0 : i - l.length = 0 := by
        rcases Nat.eq_zero_or_pos (i - l.length) with h | h
        · exact h
        · rw [List.getElem?_eq_none (by simp; omega)] at hy; cases hy
      rw [h0] at hy
      simp at hy
      subst hy
      have : i = n := by omega
      subst this
      exact hx
/-- A slice's head: where, how many, room. -/
structure Hd where
  ad : Option Addr
  n : Nat
  c : Nat
def Hd.v (h : Hd) : Value := .slice h.ad h.n h.c
end Go.Proofs.YtcikcnkhcfhomaaDoor.Hand
/- Slices by their heads: what is there up to the room, what is read; what one append does to them. -/
namespace Go.Proofs.YtcikcnkhcfhomaaDoor.Hand
open Go.RowKit Go.Proofs.YtcikcnkhcfhomaaDoorW.PrintWords Go.Proofs.YtcikcnkhcfhomaaDoorW.PrintMore Go.Proofs.YtcikcnkhcfhomaaDoor.Math

/-- Rows of slices, by their heads. -/
def KH : Kd Hd := Kd.scalar Hd.v (fun _ => rfl)
def hd0 : Hd := ⟨none, 0, 0⟩
def Hd.blk (h : Hd) : Option Nat := h.ad.map (·.block)
/-- What may change: the blocks of S, and what is new. -/
structure Chg (S : Nat → Prop) (w w' : World) : Prop where
  os : w'.os = w.os
  tape : w'.tape = w.tape
  output : w'.output = w.output
  size : w.heap.size ≤ w'.heap.size
  block : ∀ k, k < w.heap.size → ¬ S k → w'.heap[k]? = w.heap[k]?
section
variable {S S' : Nat → Prop} {w w1 w2 : World}
theorem Chg.refl (S : Nat → Prop) (w : World) : Chg S w w := ⟨rfl, rfl, rfl, Nat.le_refl _, fun _ _ _ => rfl⟩
theorem Chg.trans (h : Chg S w w1) (k : Chg S w1 w2) : Chg S w w2 := ⟨k.os.trans h.os, k.tape.trans h.tape, k.output.trans h.output, Nat.le_trans h.size k.size, fun i hi hs => (k.block i (Nat.lt_of_lt_of_le hi h.size) hs).trans (h.block i hi hs)⟩
theorem Chg.of_below (S : Nat → Prop) (h : Below w.heap.size w w1) : Chg S w w1 := ⟨h.os, h.tape, h.output, h.size, fun k hk _ => h.block k hk⟩
theorem Chg.mono (h : Chg S w w1) (hs : ∀ k, k < w.heap.size → S k → S' k) : Chg S' w w1 := ⟨h.os, h.tape, h.output, h.size, fun k hk hn => h.block k hk (fun q => hn (hs k hk q))⟩
theorem Chg.of_grown {row : Option Nat} (h : w.grownBy w1 row) : Chg (fun k => row = some k) w w1 := ⟨h.os, h.tape, h.output, h.size, fun k hk hn => h.block k hk (fun e => hn e.symm)⟩
theorem Chg.below {B : Nat} (h : Chg S w w1) (hB : B ≤ w.heap.size) (hs : ∀ k, k < B → ¬ S k) : Below B w w1 := ⟨h.os, h.tape, h.output, h.size, fun k hk => h.block k (Nat.lt_of_lt_of_le hk hB) (hs k hk)⟩
theorem Chg.set (w : World) (p : Addr) (v : Value) : Chg (fun k => k = p.block) w (w.setCell p v) := ⟨rfl, rfl, rfl, by rw [World.size_setCell]; exact Nat.le_refl _, fun k _ hk => Below.heap_setCell w p v k hk⟩
/-- The same, where the later step's blocks are new or of S. -/
theorem Chg.next (h : Chg S w w1) (k : Chg S' w1 w2) (hs : ∀ i, i < w.heap.size → S' i → S i) : Chg S w w2 := ⟨k.os.trans h.os, k.tape.trans h.tape, k.output.trans h.output, Nat.le_trans h.size k.size, fun i hi hn => (k.block i (Nat.lt_of_lt_of_le hi h.size) (fun q => hn (hs i hi q))).trans (h.block i hi hn)⟩
theorem blk_add (ad : Addr) (k : Nat) : (ad.add k).block = ad.block := by unfold Addr.add; split <;> rfl
theorem C_blk {α : Type} {enc : α → Value} {h1 : ∀ x, (enc x).oneCell' = true} {A : Option Addr} {n : Nat} {l : List α} (h : (Kd.scalar enc h1).C w A n l) (hk : ∀ ad, A = some ad → w1.heap[ad.block]? = w.heap[ad.block]?) : (Kd.scalar enc h1).C w1 A n l := by
  obtain ⟨e1, e2, e3⟩ := h
  refine ⟨e1, e2, fun hn => ?_⟩
  obtain ⟨ad, ha, hc⟩ := e3 hn
  refine ⟨ad, ha, fun j p hj => ?_⟩
  obtain ⟨cs, q1, q2, q3⟩ := hc j p hj
  refine ⟨cs, q1, q2, fun i u hu => ?_⟩
  exact (World.cell?_of_block (w := w) (w' := w1) (by rw [blk_add]; exact hk ad ha)).trans (q3 i u hu)
end
/-- A slice's cells are there up to its room, and may be written. -/
def HdOk (w : World) (h : Hd) : Prop :=
  (h.ad = none ∧ h.n = 0 ∧ h.c = 0) ∨ ∃ g o, h.ad = some ⟨g, o, none⟩ ∧ h.n ≤ h.c ∧ h.c ≤ maxLen ∧ g < w.heap.size ∧ (∀ j, j < h.c → (w.cell? ⟨g, o + j, none⟩).isSome = true) ∧ ∀ j, w.frozen? ⟨g, j, none⟩ = false
/-- What its first n cells are. -/
def HdRead (w : World) (h : Hd) (n : Nat) (f : Nat → Value) : Prop := ∀ g o, h.ad = some ⟨g, o, none⟩ → ∀ k, k < n → w.cell? ⟨g, o + k, none⟩ = some (f k)
theorem isSome_set {w : World} {p q : Addr} {v : Value} (h : (w.cell? q).isSome = true) : ((w.setCell p v).cell? q).isSome = true := by
  by_cases e : p = q
  · subst e
    obtain ⟨x, hx⟩ := Option.isSome_iff_exists.1 h
    rw [World.cell?_setCell_same w p v hx]; rfl
  · rw [World.cell?_setCell_other w p q v e]; exact h
theorem HdOk.set {w : World} {h : Hd} (hh : HdOk w h) (p : Addr) (v : Value) : HdOk (w.setCell p v) h := by
  rcases hh with hh | ⟨g, o, h1, h2, h3, h4, h5, h6⟩
  · exact .inl hh
  · exact .inr ⟨g, o, h1, h2, h3, by rw [World.size_setCell]; exact h4, fun j hj => isSome_set (h5 j hj), fun j => by rw [World.frozen?_setCell]; exact h6 j⟩
theorem HdOk.blk_lt {w : World} {h : Hd} (hh : HdOk w h) {g : Nat} (hg : h.blk = some g) : g < w.heap.size := by
  unfold Hd.blk at hg
  rcases hh with ⟨h1, _⟩ | ⟨g', o, h1, h2, h3, h4, h5⟩
  · rw [h1] at hg; cases hg
  · rw [h1] at hg
    simp at hg
    omega
theorem HdOk.keep {w w1 : World} {h : Hd} (hh : HdOk w h) (hs : w.heap.size ≤ w1.heap.size) (hk : ∀ g, h.blk = some g → w1.heap[g]? = w.heap[g]?) : HdOk w1 h := by
  rcases hh with hh | ⟨g, o, h1, h2, h3, h4, h5, h6⟩
  · exact .inl hh
  · have e := hk g (by unfold Hd.blk; rw [h1]; rfl)
    exact .inr ⟨g, o, h1, h2, h3, by omega, fun j hj => by rw [World.cell?_of_block (a := ⟨g, o + j, none⟩) e]; exact h5 j hj, fun j => by rw [World.frozen?_of_block (a := ⟨g, j, none⟩) e]; exact h6 j⟩
theorem HdRead.keep {w w1 : World} {h : Hd} {n : Nat} {f : Nat → Value} (hh : HdRead w h n f) (hk : ∀ g, h.blk = some g → w1.heap[g]? = w.heap[g]?) : HdRead w1 h n f := by
  intro g o hg k hlt
  rw [World.cell?_of_block (a := ⟨g, o + k, none⟩) (hk g (by unfold Hd.blk; rw [hg]; rfl))]
  exact hh g o hg k hlt
theorem HdRead.mono {w : World} {h : Hd} {n m : Nat} {f : Nat → Value} (hh : HdRead w h n f) (hm : m ≤ n) : HdRead w h m f := fun g o hg k hlt => hh g o hg k (by omega)
theorem HdRead.ext {w : World} {h : Hd} {n : Nat} {f f' : Nat → Value} (hh : HdRead w h n f) (hm : ∀ k, k < n → f k = f' k) : HdRead w h n f' := fun g o hg k hlt => by rw [← hm k hlt]; exact hh g o hg k hlt
theorem HdOk.drewN {w : World} {h : Hd} (hh : HdOk w h) (n : Nat) : HdOk (w.drewN n) h := hh.keep (by simp [World.drewN]) (fun g _ => rfl)
/-- What one append leaves. -/
structure AppRel (W : World) (l : Hd) (x : Value) (l1 : Hd) (w1 : World) : Prop where
  n : l1.n = l.n + 1
  ok : HdOk w1 l1
  rd : ∀ f, HdRead W l l.n f → HdRead w1 l1 (l.n + 1) (fun k => if k < l.n then f k else x)
  chg : Chg (fun k => l.blk = some k) W w1
  old : ∀ h, HdOk W h → HdOk w1 h
  own : (l1.ad = l.ad ∧ ∀ h m f, HdOk W h → h.blk ≠ l.blk ∨ (h.ad = l.ad ∧ m ≤ l.n) → HdRead W h m f → HdRead w1 h m f) ∨ ((∃ g, l1.blk = some g ∧ W.heap.size ≤ g) ∧ ∀ k, k < W.heap.size → w1.heap[k]? = W.heap[k]?)
  some : l1.ad ≠ none
theorem AppRel.reads {W : World} {l : Hd} {x : Value} {l1 : Hd} {w1 : World} (h : AppRel W l x l1 w1) {h2 : Hd} {m : Nat} {f : Nat → Value} (h0 : HdOk W h2) (hne : h2.blk ≠ l.blk ∨ (h2.ad = l.ad ∧ m ≤ l.n)) (hr : HdRead W h2 m f) : HdRead w1 h2 m f := by
  rcases h.own with ⟨_, q⟩ | ⟨_, q⟩
  · exact q h2 m f h0 hne hr
  · exact hr.keep (fun g hg => q g (h0.blk_lt hg))
theorem news_one (W : World) (x : Value) (E : TypeId) : ∀ j u, [x][j]? = some u → (W.alloc (.cells #[x] E)).cell? ((⟨W.heap.size, 0, none⟩ : Addr).add j) = some u := by
  intro j u hu
  have h0 : j = 0 := by
    have := (List.getElem?_eq_some_iff.1 hu).1
    simp at this
    exact this
  subst h0
  simp at hu
  subst hu
  simp [Addr.add, go_sem]
theorem own_hd {w : World} {base : Nat} {E : TypeId} {v : Value} {n : Nat} {xs : List Value} (h : w.ownsRow base E 1 v n xs) (hn : 0 < n) : ∃ h1 : Hd, v = h1.v ∧ h1.n = n ∧ HdOk w h1 ∧ (∃ g, h1.blk = some g ∧ base ≤ g) ∧ ∀ k u, xs[k]? = some u → ∀ g o, h1.ad = some ⟨g, o, none⟩ → w.cell? ⟨g, o + k, none⟩ = some u := by
  obtain ⟨h1, h2⟩ := h
  rcases h2 with ⟨_, h2⟩ | ⟨g, cap, cur, rfl, hb, hg, hn', hc, hs, ht⟩
  · omega
  · refine ⟨⟨some ⟨g, 0, none⟩, n, cap⟩, rfl, rfl, .inr ⟨g, 0, rfl, hn', hc, (Array.getElem?_eq_some_iff.1 hg).1, fun j hj => ?_, fun j => ?_⟩, ⟨g, rfl, hb⟩, fun k u hu g' o' e => ?_⟩
    · have hj' : j < cap := hj; rw [Nat.zero_add, cell_of_row w g j cur E (0, 0) hg, Array.getElem?_eq_getElem (by omega)]; rfl
    · simp [World.frozen?, hg]
    · injection e with e
      injection e with e1 e2
      subst e1 e2
      rw [Nat.zero_add, cell_of_row w g k cur E (0, 0) hg]
      rw [← ht, List.getElem?_take] at hu
      split at hu
      · simpa using hu
      · cases hu
section
variable {ops : Array Oper} {rest : List Oper} {o : Oper} {a : Act} {Q : Exit → Act → World → Prop}
theorem wp_app {W : World} (hgd : o.guard = none) (s x : Operand) (t E : TypeId) (z : Value) (bytes : Nat) (ho : o.op = .call { callee := .builtin .append, args := #[s, x], argTypes := #[t, t] })
    (ht : Tryd.prog.underlying t = some (.slice E)) (hinfo : (Tryd.prog.info? E).map (fun i => (i.zero, i.size, i.bytes)) = some (some z, 1, bytes)) (hz : z.cells.size = 1) (hb0 : 0 < bytes)
    (l : Hd) (xv : Value) (hs : a.eval s = l.v) (hx : a.eval x = .slice (some ⟨W.heap.size, 0, none⟩) 1 1) (h1 : xv.oneCell' = true) (HO : HdOk W l) (hl : (l.n + 1) * bytes ≤ 140737488355328)
    (K : ∀ l1 w1, AppRel W l xv l1 w1 → wpList Tryd.prog ops Q rest (a.put o.dst l1.v) w1) : wpList Tryd.prog ops Q (o :: rest) a (W.alloc (.cells #[xv] E)) := by
  obtain ⟨i0, hi, hzz⟩ := Option.map_eq_some_iff.1 hinfo
  simp only [Prod.mk.injEq] at hzz
  obtain ⟨hz0, hz1, hz2⟩ := hzz
  have hlen : l.n + 1 ≤ 140737488355328 := Nat.le_trans (Nat.le_mul_of_pos_right _ hb0) hl
  have hmx : l.n + 1 ≤ maxLen := by simp only [maxLen]; omega
  have hold : ∀ k, k < W.heap.size → (W.alloc (.cells #[xv] E)).heap[k]? = W.heap[k]? := fun k hk => heap_alloc_old W (.cells #[xv] E) hk
  have hsz : (W.alloc (.cells #[xv] E)).heap.size = W.heap.size + 1 := World.size_alloc _ _
  have grow : ∀ (olds : List Value), olds.length = l.n → (∀ g o', l.ad = some ⟨g, o', none⟩ → ∀ j u, olds[j]? = some u → W.cell? ⟨g, o' + j, none⟩ = some u) → ∀ v' w', w'.ownsRow (W.alloc (.cells #[xv] E)).heap.size E 1 v' (l.n + 1) (olds ++ [xv]) → (W.alloc (.cells #[xv] E)).grownBy w' none → wpList Tryd.prog ops Q rest (a.put o.dst v') w' := by
    intro olds hol hor v' w' hown hg
    obtain ⟨l1, rfl, e1, e2, ⟨g, e3, e3'⟩, e4⟩ := own_hd hown (by omega)
    have hall : ∀ k, k < W.heap.size → w'.heap[k]? = W.heap[k]? := fun k hk => (hg.block k (by omega) (by simp)).trans (hold k hk)
    have hss : W.heap.size ≤ w'.heap.size := by have := hg.size; omega
    refine K l1 w' ⟨e1, e2, fun f hf g o' hgo k hk => ?_, ⟨by rw [hg.os]; rfl, by rw [hg.tape]; rfl, by rw [hg.output]; rfl, hss, fun k hk _ => hall k hk⟩, fun h hh => hh.keep hss (fun g hg => hall g (hh.blk_lt hg)), .inr ⟨⟨g, e3, by omega⟩, hall⟩, fun e => by unfold Hd.blk at e3; rw [e] at e3; cases e3⟩
    show w'.cell? ⟨g, o' + k, none⟩ = some (if k < l.n then f k else xv)
    by_cases hk2 : k < l.n
    · rw [if_pos hk2]
      have hlt : k < olds.length := by omega
      have q := e4 k olds[k] (by rw [List.getElem?_append_left hlt, List.getElem?_eq_getElem hlt]) g o' hgo
      rw [q]
      rcases HO with ⟨_, h0, _⟩ | ⟨g2, o2, a1, _⟩
      · omega
      · have q2 := hor g2 o2 a1 k olds[k] (List.getElem?_eq_getElem hlt)
        rw [hf g2 o2 a1 k hk2] at q2
        exact q2.symm
    · rw [if_neg hk2]
      obtain rfl : k = l.n := by omega
      exact e4 l.n xv (by rw [List.getElem?_append_right (by omega), hol]; simp) g o' hgo
  rcases HO with ⟨h0, h2, h3⟩ | ⟨g, o', h0, h2, h3, h4, h5, h6⟩
  · refine wpList_append_grows (P := Tryd.prog) _ hgd s x t ho E i0 z 1 bytes ht hi hz0 hz1 hz2 hz (by decide) l.ad l.n l.c [] hs (fun _ => ⟨h2, h3⟩) (by simp [h2]) (fun b _ j u hj => by simp at hj) ⟨W.heap.size, 0, none⟩ 1 1 [xv] hx rfl (news_one W xv E) (by simpa using h1) (by omega) hmx hl ?_
    exact grow [] (by simp [h2]) (fun g o' e => by rw [h0] at e; cases e)
  · obtain ⟨olds, hol, hor⟩ : ∃ olds : List Value, olds.length = l.n ∧ ∀ j u, olds[j]? = some u → W.cell? ⟨g, o' + j, none⟩ = some u := by
      obtain ⟨ol, q1, q2⟩ := list_of (n := l.n) (p := fun i y => W.cell? ⟨g, o' + i, none⟩ = some y) (fun i hi => Option.isSome_iff_exists.1 (h5 i (by omega)))
      exact ⟨ol, q1, q2⟩
    have hcell : ∀ p : Addr, p.block < W.heap.size → (W.alloc (.cells #[xv] E)).cell? p = W.cell? p := fun p hp => World.cell?_of_block (hold p.block hp)
    refine wpList_append_arg (P := Tryd.prog) _ hgd s x t ho E i0 z 1 bytes ht hi hz0 hz1 hz2 hz (by decide) g o' l.n l.c olds (by rw [hs]; unfold Hd.v; rw [h0]) (by simp [hol]) (fun j u hj => (hcell _ h4).trans (hor j u hj)) ⟨W.heap.size, 0, none⟩ 1 1 [xv] hx rfl (news_one W xv E) (by simpa using h1) (fun hr j hj => ?_) hmx hl (fun hr => ?_) (fun _ => ?_)
    · have hj0 : j = 0 := by simp at hj; exact hj
      subst hj0
      rw [Nat.mul_one, Nat.add_zero, hcell _ h4]
      exact ⟨h5 l.n (by omega), by rw [World.frozen?_of_block (w := W) (a := ⟨g, o' + l.n, none⟩) (hold g h4)]; exact h6 _⟩
    · have e : (W.alloc (.cells #[xv] E)).setCells g (o' + l.n * 1) [xv] = (W.alloc (.cells #[xv] E)).setCell ⟨g, o' + l.n, none⟩ xv := by rw [Nat.mul_one]; rfl
      rw [e]
      have hne : ∀ k, k < W.heap.size → k ≠ g → ((W.alloc (.cells #[xv] E)).setCell ⟨g, o' + l.n, none⟩ xv).heap[k]? = W.heap[k]? := fun k hk hkg => (Below.heap_setCell _ ⟨g, o' + l.n, none⟩ xv k hkg).trans (hold k hk)
      have hal : ∀ h, HdOk W h → HdOk (W.alloc (.cells #[xv] E)) h := fun h hh => hh.keep (by omega) (fun g hg => hold g (hh.blk_lt hg))
      have hss : W.heap.size ≤ ((W.alloc (.cells #[xv] E)).setCell ⟨g, o' + l.n, none⟩ xv).heap.size := by rw [World.size_setCell]; omega
      have hrd : ∀ h m f, HdOk W h → h.blk ≠ l.blk ∨ (h.ad = l.ad ∧ m ≤ l.n) → HdRead W h m f → HdRead ((W.alloc (.cells #[xv] E)).setCell ⟨g, o' + l.n, none⟩ xv) h m f := by
        intro h m f hh hne2 hr2 g2 o2 hg2 k hk
        have hlt2 : g2 < W.heap.size := hh.blk_lt (by unfold Hd.blk; rw [hg2]; rfl)
        rw [World.cell?_setCell_other _ _ _ _ ?_, hcell _ hlt2]
        · exact hr2 g2 o2 hg2 k hk
        · intro e
          injection e with e1 e2
          subst e1
          rcases hne2 with hne2 | ⟨q1, q2⟩
          · exact hne2 (by unfold Hd.blk; rw [hg2, h0]; rfl)
          · rw [hg2, h0] at q1
            injection q1 with q1
            injection q1 with _ q1
            omega
      have hok : HdOk (W.alloc (.cells #[xv] E)) ⟨l.ad, l.n + 1, l.c⟩ := .inr ⟨g, o', h0, hr, h3, by omega, fun j hj => by rw [hcell _ h4]; exact h5 j hj, fun j => by rw [World.frozen?_of_block (w := W) (a := ⟨g, j, none⟩) (hold g h4)]; exact h6 j⟩
      rw [← h0]
      refine K ⟨l.ad, l.n + 1, l.c⟩ _ ⟨rfl, hok.set _ _, fun f hf g2 o2 hgo k hk => ?_, ⟨rfl, rfl, rfl, hss, fun k hk hn => hne k hk (fun e => hn (by unfold Hd.blk; rw [h0, e]; rfl))⟩, fun h hh => (hal h hh).set _ _, .inl ⟨rfl, hrd⟩, fun e => by rw [h0] at e; cases e⟩
      have hgo' : l.ad = some ⟨g2, o2, none⟩ := hgo
      have e12 : g = g2 ∧ o' = o2 := by rw [h0] at hgo'; simpa using hgo'
      clear hgo hgo'
      obtain ⟨rfl, rfl⟩ := e12
      show World.cell? _ _ = some (if k < l.n then f k else xv)
      by_cases hk2 : k < l.n
      · rw [if_pos hk2, World.cell?_setCell_other _ _ _ _ (fun e => by injection e with _ e; omega), hcell _ h4]
        exact hf g o' h0 k hk2
      · rw [if_neg hk2]
        obtain rfl : k = l.n := by omega
        obtain ⟨y, hy⟩ := Option.isSome_iff_exists.1 (h5 l.n (by omega))
        exact World.cell?_setCell_same _ _ _ ((hcell ⟨g, o' + l.n, none⟩ h4).trans hy)
    · exact grow olds hol (fun g2 o2 e => by rw [h0] at e; injection e with e; injection e with e1 e2; subst e1 e2; exact hor)
/-- The same, the box's number told otherwise. -/
theorem wp_app' {W : World} (hgd : o.guard = none) (s x : Operand) (t E : TypeId) (z : Value) (bytes : Nat) (ho : o.op = .call { callee := .builtin .append, args := #[s, x], argTypes := #[t, t] })
    (ht : Tryd.prog.underlying t = some (.slice E)) (hinfo : (Tryd.prog.info? E).map (fun i => (i.zero, i.size, i.bytes)) = some (some z, 1, bytes)) (hz : z.cells.size = 1) (hb0 : 0 < bytes)
    (l : Hd) (xv : Value) (b : Nat) (hb : W.heap.size = b) (hs : a.eval s = l.v) (hx : a.eval x = .slice (some ⟨b, 0, none⟩) 1 1) (h1 : xv.oneCell' = true) (HO : HdOk W l) (hl : (l.n + 1) * bytes ≤ 140737488355328)
    (K : ∀ l1 w1, AppRel W l xv l1 w1 → wpList Tryd.prog ops Q rest (a.put o.dst l1.v) w1) : wpList Tryd.prog ops Q (o :: rest) a (W.alloc (.cells #[xv] E)) := by
  subst hb
  exact wp_app hgd s x t E z bytes ho ht hinfo hz hb0 l xv hs hx h1 HO hl K
end
end Go.Proofs.YtcikcnkhcfhomaaDoor.Hand
/- What dovetailkit's Apart.. looks at, told of memory: lists written full, gone on with, looked at. -/
namespace Go.Proofs.YtcikcnkhcfhomaaDoor.Hand
open Go.RowKit Go.Proofs.YtcikcnkhcfhomaaDoorW.PrintWords Go.Proofs.YtcikcnkhcfhomaaDoorW.PrintMore Go.Proofs.YtcikcnkhcfhomaaDoor.Math

def mkA (K : IntKind) (j k : Nat) : Value := .int K (1000 * (j : Int) + (k : Int))
def fullA (K : IntKind) (j n k : Nat) : Value := if k < n then mkA K j k else .int K (500000 + 1000 * (j : Int) + ((k - n : Nat) : Int))
abbrev hdD (H : List Hd) (j : Nat) : Hd := H.getD j hd0
def ApS (H : List Hd) (g : Nat) : Prop := ∃ j, j < H.length ∧ (hdD H j).blk = some g
/-- What is asked of the lists: each has memory of its own, and none lies in the row of lists. -/
structure ApPre (w : World) (A : Option Addr) (H : List Hd) : Prop where
  all : KH.C w A H.length H
  len : H.length ≤ 1000000000000
  ok : ∀ j, j < H.length → HdOk w (hdD H j)
  short : ∀ j, j < H.length → (hdD H j).n ≤ 1000000000000
  dis : ∀ i j g, i < H.length → j < H.length → i ≠ j → (hdD H i).blk = some g → (hdD H j).blk ≠ some g
  out : ∀ j ad, j < H.length → A = some ad → (hdD H j).blk ≠ some ad.block
structure Ap1 (K : IntKind) (w : World) (H : List Hd) (i k : Nat) (wr : World) : Prop where
  chg : Chg (ApS H) w wr
  ok : ∀ j, j < H.length → HdOk wr (hdD H j)
  rd : ∀ j, j < i → HdRead wr (hdD H j) (hdD H j).n (mkA K j)
  cur : HdRead wr (hdD H i) k (mkA K i)
theorem HdRead.none {w : World} {h : Hd} {n : Nat} {f : Nat → Value} (hh : h.ad = none) : HdRead w h n f := fun g o e => by rw [hh] at e; cases e
theorem HdRead.zero (w : World) (h : Hd) (f : Nat → Value) : HdRead w h 0 f := fun g o e k hk => by omega
theorem Ap1.start (K : IntKind) {w : World} {A : Option Addr} {H : List Hd} (h : ApPre w A H) : Ap1 K w H 0 0 w := ⟨Chg.refl _ _, h.ok, fun j hj => by omega, HdRead.zero _ _ _⟩
theorem Ap1.next {K : IntKind} {w wr : World} {H : List Hd} {i : Nat} (h : Ap1 K w H i (hdD H i).n wr) : Ap1 K w H (i + 1) 0 wr :=
  ⟨h.chg, h.ok, fun j hj => (by
    rcases Nat.lt_or_ge j i with h' | h'
    · exact h.rd j h'
    · obtain rfl : j = i := by omega
      exact h.cur), HdRead.zero _ _ _⟩
theorem hd_blk {h : Hd} {g o : Nat} (e : h.ad = some ⟨g, o, none⟩) : h.blk = some g := by unfold Hd.blk; rw [e]; rfl
theorem Ap1.put {K : IntKind} {w wr : World} {A : Option Addr} {H : List Hd} {i k g o : Nat} (hp : ApPre w A H) (h : Ap1 K w H i k wr) (hi : i < H.length) (hk : k < (hdD H i).n) (he : (hdD H i).ad = some ⟨g, o, none⟩) : Ap1 K w H i (k + 1) (wr.setCell ⟨g, o + k, none⟩ (mkA K i k)) := by
  refine ⟨h.chg.next (Chg.set wr ⟨g, o + k, none⟩ _) (fun x _ hx => ⟨i, hi, by rw [hd_blk he, hx]⟩), fun j hj => (h.ok j hj).set _ _, fun j hj g2 o2 e2 q hq => ?_, fun g2 o2 e2 q hq => ?_⟩
  · rw [World.cell?_setCell_other _ _ _ _ (fun e => by injection e with e1 _; exact hp.dis i j g hi (by omega) (by omega) (hd_blk he) (by rw [hd_blk e2, e1]))]
    exact h.rd j hj g2 o2 e2 q hq
  · rw [he] at e2
    have e12 : g = g2 ∧ o = o2 := by simpa using e2
    obtain ⟨rfl, rfl⟩ := e12
    by_cases e : q = k
    · subst e
      rcases h.ok i hi with ⟨e3, _⟩ | ⟨g3, o3, e3, e4, e5, e6, e7, e8⟩
      · rw [he] at e3; cases e3
      · rw [he] at e3
        have e12 : g = g3 ∧ o = o3 := by simpa using e3
        obtain ⟨rfl, rfl⟩ := e12
        obtain ⟨y, hy⟩ := Option.isSome_iff_exists.1 (e7 q (by omega))
        exact World.cell?_setCell_same _ _ _ hy
    · rw [World.cell?_setCell_other _ _ _ _ (fun e' => by injection e' with _ e'; omega)]
      exact h.cur g o he q (by omega)
structure Ap2 (K : IntKind) (T : TypeId) (w : World) (A : Option Addr) (H : List Hd) (i : Nat) (M : List Hd) (u : Value) (wr : World) : Prop where
  chg : Chg (ApS H) w wr
  ok : ∀ j, j < H.length → HdOk wr (hdD H j)
  rd : ∀ j, j < H.length → HdRead wr (hdD H j) (hdD H j).n (mkA K j)
  len : M.length = i
  mn : ∀ j, j < i → (hdD M j).n = (hdD H j).n + 30 ∧ (hdD M j).ad ≠ none
  mok : ∀ j, j < i → HdOk wr (hdD M j)
  mrd : ∀ j, j < i → HdRead wr (hdD M j) ((hdD H j).n + 30) (fullA K j (hdD H j).n)
  mblk : ∀ j j', j < i → j' < H.length → j' ≠ j → (hdD H j').blk ≠ (hdD M j).blk
  mown : ∀ j g, j < i → (hdD M j).blk = some g → u.ownBlock ≠ some g ∧ ∀ ad, A = some ad → ad.block ≠ g
  more : KH.R T wr w.heap.size (fun _ => True) u M
theorem Ap2.start {K : IntKind} {T : TypeId} {w wr : World} {A : Option Addr} {H : List Hd} (h : Ap1 K w H H.length 0 wr) : Ap2 K T w A H 0 [] (.slice none 0 0) wr :=
  ⟨h.chg, h.ok, h.rd, rfl, fun j hj => by omega, fun j hj => by omega, fun j hj => by omega, fun j j' hj => by omega, fun j g hj => by omega, Kd.R_nil _ _ _ _ _⟩
structure ApI (K : IntKind) (wi : World) (H : List Hd) (i k : Nat) (l : Hd) (wr : World) : Prop where
  chg : Chg (fun g => (hdD H i).blk = some g) wi wr
  n : l.n = (hdD H i).n + k
  ok : HdOk wr l
  rd : HdRead wr l ((hdD H i).n + k) (fullA K i (hdD H i).n)
  hok : ∀ j, j < H.length → HdOk wr (hdD H j)
  hrd : ∀ j, j < H.length → HdRead wr (hdD H j) (hdD H j).n (mkA K j)
  own : l.ad = (hdD H i).ad ∨ ∃ g, l.blk = some g ∧ wi.heap.size ≤ g
  got : 0 < k → l.ad ≠ none
theorem ApI.start {K : IntKind} {T : TypeId} {w wi : World} {A : Option Addr} {H M : List Hd} {i : Nat} {u : Value} (h : Ap2 K T w A H i M u wi) (hi : i < H.length) : ApI K wi H i 0 (hdD H i) wi :=
  ⟨Chg.refl _ _, rfl, h.ok i hi, (h.rd i hi).ext (fun k hk => by unfold fullA; rw [if_pos (by omega)]), h.ok, h.rd, .inl rfl, fun h => by omega⟩
theorem hd_none {h : Hd} (e : h.blk = none) : h.ad = none := by
  unfold Hd.blk at e
  cases hh : h.ad with
  | none => rfl
  | some a => rw [hh] at e; cases e
theorem ApPre.blk_lt {w : World} {A : Option Addr} {H : List Hd} (hp : ApPre w A H) {j g : Nat} (hj : j < H.length) (hg : (hdD H j).blk = some g) : g < w.heap.size := (hp.ok j hj).blk_lt hg
theorem ApI.step {K : IntKind} {w wi wr w1 : World} {A : Option Addr} {H : List Hd} {i k : Nat} {l l1 : Hd} (hp : ApPre w A H) (hs : w.heap.size ≤ wi.heap.size) (hi : i < H.length) (h : ApI K wi H i k l wr) (r : AppRel wr l (.int K (500000 + 1000 * (i : Int) + (k : Int))) l1 w1) : ApI K wi H i (k + 1) l1 w1 := by
  refine ⟨h.chg.next r.chg (fun x hx hl => ?_), by rw [r.n, h.n]; omega, r.ok, ?_, fun j hj => r.old _ (h.hok j hj), fun j hj => ?_, ?_, fun _ => r.some⟩
  · rcases h.own with e | ⟨g, e, hg⟩
    · unfold Hd.blk at hl ⊢; rw [← e]; exact hl
    · have : some g = some x := e.symm.trans hl
      have : g = x := by simpa using this
      omega
  · have q := r.rd (fullA K i (hdD H i).n) (by rw [h.n]; exact h.rd)
    rw [h.n] at q
    refine HdRead.ext (n := (hdD H i).n + (k + 1)) q (fun x hx => ?_)
    by_cases e : x < (hdD H i).n + k
    · rw [if_pos e]
    · rw [if_neg e]
      obtain rfl : x = (hdD H i).n + k := by omega
      unfold fullA
      rw [if_neg (by omega), Nat.add_sub_cancel_left]
  · cases hb : (hdD H j).blk with
    | none => exact HdRead.none (hd_none hb)
    | some g =>
      refine r.reads (h.hok j hj) ?_ (h.hrd j hj)
      by_cases e : j = i
      · subst e
        rcases h.own with e | ⟨g', e, hg⟩
        · exact .inr ⟨e.symm, by rw [h.n]; omega⟩
        · left
          rw [hb, e]
          intro e3
          have e3 : g = g' := by simpa using e3
          have := hp.blk_lt hj hb
          omega
      · left
        rcases h.own with e2 | ⟨g', e2, hg⟩
        · have : l.blk = (hdD H i).blk := by unfold Hd.blk; rw [e2]
          rw [this]
          intro e3
          exact hp.dis j i g hj hi e hb (e3.symm.trans hb)
        · rw [hb, e2]
          intro e3
          have e3 : g = g' := by simpa using e3
          have := hp.blk_lt hj hb
          omega
  · rcases r.own with ⟨e, _⟩ | ⟨⟨g, e, hg⟩, _⟩
    · rcases h.own with e2 | ⟨g, e2, hg⟩
      · exact .inl (e.trans e2)
      · exact .inr ⟨g, by unfold Hd.blk at e2 ⊢; rw [e]; exact e2, hg⟩
    · exact .inr ⟨g, e, Nat.le_trans h.chg.size hg⟩
theorem R_chg {α : Type} {d : Kd α} {e : Nat} {S : Nat → Prop} {w w2 : World} {base : Nat} {v : Value} {xs : List α} (h : d.R e w base (fun _ => True) v xs) (hc : Chg S w w2) (hs : ∀ k, base ≤ k → ¬ S k) : d.R e w2 base (fun _ => True) v xs :=
  Kd.R_mono (Kd.R_step (Kd.R_bound h) (fun k hk hlt => hc.block k hlt (hs k hk.2.1))) (fun _ _ => trivial)
theorem ApI.more {K : IntKind} {T : TypeId} {w wi wr : World} {A : Option Addr} {H M : List Hd} {i k : Nat} {l : Hd} {u : Value} (hp : ApPre w A H) (hi : i < H.length) (h2 : Ap2 K T w A H i M u wi) (h : ApI K wi H i k l wr) : KH.R T wr w.heap.size (fun _ => True) u M :=
  R_chg h2.more h.chg (fun x hx e => by have := hp.blk_lt hi e; omega)
theorem getD_snoc {α : Type} (M : List α) (x d : α) (j : Nat) : (M ++ [x]).getD j d = if j < M.length then M.getD j d else if j = M.length then x else d := by
  split
  · rename_i h; simp [List.getD_eq_getElem?_getD, List.getElem?_append_left h]
  · split
    · rename_i h h2; subst h2; simp [List.getD_eq_getElem?_getD]
    · simp [List.getD_eq_getElem?_getD, List.getElem?_eq_none (show (M ++ [x]).length ≤ j by simp; omega)]
theorem Ap2.next {K : IntKind} {T : TypeId} {w wi wr w2 : World} {A : Option Addr} {H M : List Hd} {i : Nat} {l : Hd} {u v1 : Value} (hp : ApPre w A H) (hi : i < H.length) (h2 : Ap2 K T w A H i M u wi) (h : ApI K wi H i 30 l wr)
    (hR : KH.R T w2 w.heap.size (fun _ => True) v1 (M ++ [l])) (hg : wr.grownBy w2 u.ownBlock) (hat : v1.ownBlock = u.ownBlock ∨ ∃ b, v1.ownBlock = some b ∧ wr.heap.size ≤ b) : Ap2 K T w A H (i + 1) (M ++ [l]) v1 w2 := by
  have hown : ∀ k, u.ownBlock = some k → w.heap.size ≤ k ∧ k < wi.heap.size := fun k hk => by
    have hb := Kd.R_bound h2.more
    have := hb.1 k hk
    exact ⟨this.2.1, this.2.2.1⟩
  have hws : w.heap.size ≤ wi.heap.size := h2.chg.size
  have hwr : wi.heap.size ≤ wr.heap.size := h.chg.size
  have kH : ∀ j, j < H.length → ∀ g, (hdD H j).blk = some g → w2.heap[g]? = wr.heap[g]? := fun j hj g hb => by
    have := hp.blk_lt hj hb
    exact hg.block g (by omega) (fun e => by have := hown g e.symm; omega)
  have hl2 : ∀ g, l.blk = some g → (hdD H i).blk = some g ∨ wi.heap.size ≤ g := fun g e => by
    rcases h.own with q | ⟨g', q, hq⟩
    · left; unfold Hd.blk at e ⊢; rw [← q]; exact e
    · right
      have : some g' = some g := q.symm.trans e
      have : g' = g := by simpa using this
      omega
  have hlr : ∀ g, l.blk = some g → g < wr.heap.size := fun g e => h.ok.blk_lt e
  have kl : ∀ g, l.blk = some g → w2.heap[g]? = wr.heap[g]? := fun g e => by
    have h3 := hlr g e
    refine hg.block g h3 (fun q => ?_)
    have h4 := hown g q.symm
    rcases hl2 g e with h5 | h5
    · have := hp.blk_lt hi h5; omega
    · omega
  have kM : ∀ j, j < i → ∀ g, (hdD M j).blk = some g → w2.heap[g]? = wi.heap[g]? := fun j hj g e => by
    have h3 := (h2.mok j hj).blk_lt e
    have h4 := (h2.mown j g hj e).1
    have h5 : ¬ (hdD H i).blk = some g := fun q => h2.mblk j i hj hi (by omega) (q.trans e.symm)
    exact (hg.block g (by omega) (fun q => h4 q.symm)).trans (h.chg.block g h3 h5)
  have hsz : wi.heap.size ≤ w2.heap.size := Nat.le_trans hwr hg.size
  have hlen := h2.len
  have cM : ∀ j, j < i → hdD (M ++ [l]) j = hdD M j := fun j hj => by unfold hdD; rw [getD_snoc, if_pos (by omega)]
  have cl : hdD (M ++ [l]) i = l := by unfold hdD; rw [getD_snoc, if_neg (by omega), if_pos hlen.symm]
  have lt : ∀ j, j < i + 1 → j < i ∨ j = i := fun j hj => by omega
  refine ⟨(h2.chg.next h.chg (fun x _ e => ⟨i, hi, e⟩)).next (Chg.of_grown hg) (fun x hx e => by have := hown x e; omega), fun j hj => (h.hok j hj).keep hg.size (kH j hj), fun j hj => (h.hrd j hj).keep (kH j hj), by simp [hlen], fun j hj => ?_, fun j hj => ?_, fun j hj => ?_, fun j j' hj hj' hne => ?_, fun j g hj e => ?_, hR⟩
  · rcases lt j hj with hj | rfl
    · rw [cM j hj]; exact h2.mn j hj
    · rw [cl]; exact ⟨h.n, h.got (by decide)⟩
  · rcases lt j hj with hj | rfl
    · rw [cM j hj]; exact (h2.mok j hj).keep hsz (kM j hj)
    · rw [cl]; exact h.ok.keep hg.size kl
  · rcases lt j hj with hj | rfl
    · rw [cM j hj]; exact (h2.mrd j hj).keep (kM j hj)
    · rw [cl]; exact h.rd.keep kl
  · rcases lt j hj with hj | rfl
    · rw [cM j hj]; exact h2.mblk j j' hj hj' hne
    · rw [cl]
      intro e
      cases hb : l.blk with
      | none => exact h.got (by decide) (hd_none hb)
      | some g =>
        rw [hb] at e
        rcases hl2 g hb with h5 | h5
        · exact hp.dis j' j g hj' hi hne e h5
        · have := hp.blk_lt hj' e; omega
  · rcases lt j hj with hj | rfl
    · rw [cM j hj] at e
      have h3 := (h2.mok j hj).blk_lt e
      refine ⟨fun q => ?_, (h2.mown j g hj e).2⟩
      rcases hat with hat | ⟨b, hat, hb⟩
      · exact (h2.mown j g hj e).1 (hat.symm.trans q)
      · have : some b = some g := hat.symm.trans q
        have : b = g := by simpa using this
        omega
    · rw [cl] at e
      refine ⟨fun q => ?_, fun ad ha q => ?_⟩
      · rcases hat with hat | ⟨b, hat, hb⟩
        · have h4 := hown g (hat.symm.trans q)
          rcases hl2 g e with h5 | h5
          · have := hp.blk_lt hi h5; omega
          · omega
        · have : some b = some g := hat.symm.trans q
          have : b = g := by simpa using this
          have := hlr g e
          omega
      · rcases hl2 g e with h5 | h5
        · exact hp.out j ad hi ha (by rw [h5, q])
        · have hA : ad.block < w.heap.size := by
            obtain ⟨e1, e2, e3⟩ := hp.all
            obtain ⟨ad', ha', hc⟩ := e3 (by omega)
            rw [ha] at ha'
            obtain rfl := Option.some.inj ha'
            obtain ⟨cs, q1, q2, q3⟩ := hc j H[j] (List.getElem?_eq_getElem hi)
            have q2' : cs = [H[j].v] := q2
            subst q2'
            have := World.block_lt_of_cell? _ _ (q3 0 _ rfl)
            rwa [blk_add] at this
          omega
/-- The row of lists stays. -/
theorem ApPre.stay {w wr : World} {A : Option Addr} {H : List Hd} (hp : ApPre w A H) (hc : Chg (ApS H) w wr) : KH.C wr A H.length H := by
  rcases Nat.eq_zero_or_pos H.length with h0 | h0
  · have : H = [] := List.eq_nil_of_length_eq_zero h0
    subst this
    exact ⟨rfl, by simp, fun h => absurd h (by simp)⟩
  · refine C_blk hp.all (fun ad ha => hc.block _ ?_ ?_)
    · obtain ⟨e1, e2, e3⟩ := hp.all
      obtain ⟨ad', ha', hc⟩ := e3 (by omega)
      rw [ha] at ha'
      obtain rfl := Option.some.inj ha'
      obtain ⟨cs, q1, q2, q3⟩ := hc 0 H[0] (List.getElem?_eq_getElem h0)
      have q2' : cs = [H[0].v] := q2
      subst q2'
      have := World.block_lt_of_cell? _ _ (q3 0 _ rfl)
      rwa [blk_add] at this
    · rintro ⟨j, hj, e⟩
      exact hp.out j ad hj ha e
theorem ApPre.head {w wr : World} {A : Option Addr} {H : List Hd} (hp : ApPre w A H) (hc : Chg (ApS H) w wr) {j : Nat} (hj : j < H.length) : ∃ ad, A = some ad ∧ wr.cell? (ad.add j) = some (hdD H j).v := by
  obtain ⟨ad, y, h1, h2, h3⟩ := at_scalar (hp.stay hc) j hj hd0
  exact ⟨ad, h1, by rw [h2, ← h3.out]⟩
theorem KH_head {w : World} {A : Option Addr} {H : List Hd} (hp : KH.C w A H.length H) {j : Nat} (hj : j < H.length) : ∃ ad, A = some ad ∧ w.cell? (ad.add j) = some (hdD H j).v := by
  obtain ⟨ad, y, h1, h2, h3⟩ := at_scalar hp j hj hd0
  exact ⟨ad, h1, by rw [h2, ← h3.out]⟩
theorem HdOk.form {w : World} {h : Hd} (hh : HdOk w h) : (h = hd0) ∨ ∃ g o n c, h = ⟨some ⟨g, o, none⟩, n, c⟩ ∧ n ≤ c ∧ (∀ j, j < c → ∃ y, w.cell? ⟨g, o + j, none⟩ = some y) ∧ ∀ j, w.frozen? ⟨g, j, none⟩ = false := by
  obtain ⟨ad, n, c⟩ := h
  rcases hh with ⟨h1, h2, h3⟩ | ⟨g, o, h1, h2, h3, h4, h5, h6⟩
  · simp only at h1 h2 h3
    subst h1 h2 h3
    exact .inl rfl
  · simp only at h1 h2 h3 h5
    subst h1
    exact .inr ⟨g, o, n, c, rfl, h2, fun j hj => Option.isSome_iff_exists.1 (h5 j hj), h6⟩
end Go.Proofs.YtcikcnkhcfhomaaDoor.Hand
/- dovetailkit.ApartInts, ApartSets: lists with memory of their own share none. -/
namespace Go.Proofs.YtcikcnkhcfhomaaDoor.Hand
open Go.RowKit Go.Proofs.YtcikcnkhcfhomaaDoorW.PrintWords Go.Proofs.YtcikcnkhcfhomaaDoorW.PrintMore Go.Proofs.YtcikcnkhcfhomaaDoor.Math

theorem infoIntss : (Tryd.prog.info? 22).map (fun i => (i.zero, i.size, i.bytes)) = some (some (.slice none 0 0), 1, 24) := by kernel_rfl
set_option maxHeartbeats 4000000 in
set_option maxRecDepth 100000 in
theorem apartInts_calls (A : Option Addr) (c : Nat) (H : List Hd) (w : World) (hp : ApPre w A H) :
    Calls Tryd.prog 19 #[.slice A H.length c] w fun e w' => e = .returned (.bool true) ∧ Chg (ApS H) w w' := by
  have HP := Lib.hid hp
  have hlen := hp.len
  clear hp
  go_enter Tryd.func19, Tryd.ntmps19
  go_wp2
  go_loopw [3, 4] (fun a _ wr => ∃ (j : Nat), j ≤ H.length ∧ a = .int .i64 j ∧ Hid (Ap1 .i64 w H j 0 wr)) (fun a _ _ => H.length - (intOf a).toNat)
  case atStart => exact ⟨0, by omega, rfl, Lib.hid (Ap1.start _ HP.out)⟩
  case round =>
    obtain ⟨j, hj, rfl, HS⟩ := hrel
    obtain ⟨wo, rfl⟩ : ∃ wo : World, wo = wr := ⟨_, rfl⟩
    by_cases hlt : j < H.length
    · obtain ⟨ad, rfl, hc⟩ := HP.out.head HS.out.chg hlt
      have hsh := HP.out.short j hlt
      obtain ⟨hd, hhd⟩ : ∃ h, hdD H j = h := ⟨_, rfl⟩
      have hok0 := HP.out.ok j hlt
      rw [hhd] at hc hsh hok0
      have HD := Lib.hid hhd
      clear hhd
      obtain ⟨yad, n, cc⟩ := hd
      have HOK0 := Lib.hid hok0
      simp only [Hd.v] at hc
      simp only at hsh
      clear hok0
      go_wp2
      clear hc
      go_loopw [4] (fun a wr => ∃ (q : Nat), q ≤ n ∧ a = .int .i64 q ∧ Hid (Ap1 .i64 w H j q wr)) (fun a _ => n - (intOf a).toNat)
      case atStart => exact ⟨0, by omega, rfl, HS⟩
      case round =>
        obtain ⟨q, hq, rfl, HS1⟩ := hrel
        obtain ⟨ad', ha', hc⟩ := HP.out.head HS1.out.chg hlt
        obtain rfl := Option.some.inj ha'
        rw [HD.out] at hc
        simp only [Hd.v] at hc
        by_cases hql : q < n
        · have hok := HS1.out.ok j hlt
          rw [HD.out] at hok
          rcases hok.form with e | ⟨g, o, n', c', e, hnc, hcell, hfr⟩
          · injection e with _ e _; omega
          · injection e with e1 e2 e3
            subst e1 e2 e3
            obtain ⟨y0, hy0⟩ := hcell q (by omega)
            have hf0 := hfr (o + q)
            have HNX := Lib.hid (HS1.out.put HP.out hlt (by rw [HD.out]; exact hql) (by rw [HD.out]))
            clear hok hcell hfr ha'
            go_wp2
            go_roundw
            case rel => exact ⟨q + 1, by omega, by go_num, HNX⟩
            case measure => simp [intOf]; omega
        · obtain rfl : q = n := by omega
          clear ha'
          go_wp2
          go_roundw
          case rel => exact ⟨j + 1, by omega, by go_num, Lib.hid (Ap1.next (by rw [HD.out]; exact HS1.out))⟩
          case measure => simp [intOf]; omega
    · obtain rfl : j = H.length := by omega
      have HS3 := Lib.hid (Ap2.start (T := 22) (A := A) HS.out)
      clear HS
      go_wp2
      go_loopw [5, 6, 7, 8] (fun uu a _ _ wr => ∃ (j : Nat) (M : List Hd) (u : Value), j ≤ H.length ∧ a = .int .i64 j ∧ u = uu ∧ Hid (Ap2 .i64 22 w A H j M u wr)) (fun _ a _ _ _ => H.length - (intOf a).toNat)
      case atStart => exact ⟨0, [], _, by omega, rfl, rfl, HS3⟩
      case round =>
        obtain ⟨j, M, u, hj, rfl, rfl, HS⟩ := hrel
        obtain ⟨wo, rfl⟩ : ∃ wo : World, wo = wr := ⟨_, rfl⟩
        by_cases hlt : j < H.length
        · obtain ⟨ad, rfl, hc⟩ := HP.out.head HS.out.chg hlt
          have hsh := HP.out.short j hlt
          have hi0 := ApI.start HS.out hlt
          obtain ⟨h0, hh0⟩ : ∃ h, hdD H j = h := ⟨_, rfl⟩
          rw [hh0] at hi0 hc hsh
          have HI0 := Lib.hid hi0
          have HH0 := Lib.hid hh0
          clear hi0 hh0
          simp only [Hd.v] at hc
          have hML := HS.out.len
          have HML := Lib.hid hML
          clear hML
          go_wp2
          go_loopw [7, 8] (fun lv a wr => ∃ (q : Nat) (l : Hd), q ≤ 30 ∧ a = .int .i64 q ∧ lv = .slice l.ad l.n l.c ∧ Hid (ApI .i64 wo H j q l wr)) (fun _ a _ => 30 - (intOf a).toNat)
          case atStart => exact ⟨0, _, by omega, rfl, rfl, HI0⟩
          case round =>
            obtain ⟨q, l, hq, rfl, rfl, HI⟩ := hrel
            have hln := HI.out.n
            rw [HH0.out] at hln
            have hln1 : (l.n + 1) * 8 ≤ 140737488355328 := by omega
            have HLN := Lib.hid hln1
            have HWS := Lib.hid (Nat.le_trans HS.out.chg.size HI.out.chg.size)
            clear hln hln1
            by_cases hql : q < 30
            · go_wp2_with ((with_reducible refine gate_builtin (b := .append) (xs := #[.tmp 52, .tmp 58]) rfl ?_); at_builtin; refine wp_app rfl (.tmp 52) (.tmp 58) 22 3 (.int .i64 0) 8 rfl Tryd.underlying22 infoInt rfl (by decide) l _ rfl rfl rfl HI.out.ok HLN.out ?_; intro l1 w1 hr; have HR := Lib.hid (HI.out.step HP.out HS.out.chg.size hlt hr); clear hr)
              go_roundw
              case rel => exact ⟨q + 1, l1, by omega, by go_num, rfl, HR⟩
              case measure => simp [intOf]; omega
            · obtain rfl : q = 30 := by omega
              have HMo := Lib.hid (HI.out.more HP.out hlt HS.out)
              go_wp2_with ((with_reducible refine gate_builtin (b := .append) (xs := #[.tmp 60, .tmp 62]) rfl ?_); at_builtin; go_loud (refine Kd.R_append KH (w0 := wr) w.heap.size rfl (.tmp 60) (.tmp 62) 34 22 (.slice none 0 0) 24 rfl Tryd.underlying34 infoIntss rfl (by decide) (by omega) u M l [.slice l.ad l.n l.c] (fun _ => True) (fun _ => False) rfl rfl rfl (fun _ hk => hk.elim) (fun _ _ => trivial) HMo.out (Below.refl _ _) HWS.out (by have := HML.out; omega) ?_); intro v1 w1 ho hb hg hat; (have HR := Lib.hid (Ap2.next HP.out hlt HS.out HI.out ho hg hat); clear ho hb hg hat))
              go_roundw
              case rel => exact ⟨j + 1, _, _, by omega, by go_num, rfl, HR⟩
              case measure => simp [intOf]; omega
        · obtain rfl : j = H.length := by omega
          obtain ⟨B, c2, rfl⟩ := Kd.R_slice HS.out.more
          have hML := HS.out.len
          obtain ⟨-, -, hMC⟩ := Kd.R_reads' HS.out.more
          have HMC := Lib.hid hMC
          have HCH := Lib.hid (HP.out.stay HS.out.chg)
          have HML := Lib.hid hML
          clear hMC hML
          go_wp2
          go_loopw [9, 10, 11, 12] (fun a _ _ _ wx => ∃ (i : Nat), i ≤ H.length ∧ a = .int .i64 i ∧ wo = wx) (fun a _ _ _ _ => H.length - (intOf a).toNat)
          case atStart => exact ⟨0, by omega, rfl, rfl⟩
          case round =>
            obtain ⟨i, hi, rfl, rfl⟩ := hrel
            by_cases hlt2 : i < H.length
            · obtain ⟨ad, rfl, hc⟩ := KH_head HCH.out hlt2
              have hmi : i < M.length := by have := HML.out; omega
              obtain ⟨ad2, rfl, hc2⟩ := KH_head HMC.out hmi
              obtain ⟨hmn, hma⟩ := HS.out.mn i hlt2
              have hsh := HP.out.short i hlt2
              have ho1 := HS.out.ok i hlt2
              have ho2 := HS.out.mok i hlt2
              have hr1 := HS.out.rd i hlt2
              have hr2 := HS.out.mrd i hlt2
              obtain ⟨x1, hx1⟩ : ∃ h, hdD H i = h := ⟨_, rfl⟩
              obtain ⟨x2, hx2⟩ : ∃ h, hdD M i = h := ⟨_, rfl⟩
              rw [hx1] at hc hmn hsh ho1 hr1 hr2
              rw [hx2] at hc2 hmn hma ho2 hr2
              rcases ho2.form with rfl | ⟨g2, o2, n2, c4, rfl, -, -, -⟩
              · exact absurd rfl hma
              obtain ⟨a1, n, c3⟩ := x1
              simp only at hmn hsh hr1 hr2
              simp only [Hd.v] at hc hc2
              subst hmn
              have HR1 := Lib.hid hr1
              have HR2 := Lib.hid hr2
              have HO1 := Lib.hid ho1
              clear hx1 hx2 ho1 ho2 hr1 hr2 hma
              go_wp2
              go_loopw [11] (fun a wx => ∃ (k : Nat), k ≤ n ∧ a = .int .i64 k ∧ wo = wx) (fun a _ => n - (intOf a).toNat)
              case atStart => exact ⟨0, by omega, rfl, rfl⟩
              case round =>
                obtain ⟨k, hk, rfl, rfl⟩ := hrel
                by_cases hkl : k < n
                · rcases HO1.out.form with e | ⟨g, o, n', c', e, -, -, -⟩
                  · injection e with _ e _; omega
                  · injection e with e1 e2 e3
                    subst e1 e2 e3
                    have hv1 : wo.cell? ⟨g, o + k, none⟩ = some (.int .i64 (1000 * (i : Int) + (k : Int))) := HR1.out g o rfl k hkl
                    have hv2 : wo.cell? ⟨g2, o2 + k, none⟩ = some (.int .i64 (1000 * (i : Int) + (k : Int))) := by
                      have := HR2.out g2 o2 rfl k (by omega)
                      rw [this]; unfold fullA; rw [if_pos hkl]; rfl
                    go_wp2
                    go_roundw
                    case rel => exact ⟨k + 1, by omega, by go_num, by trivial⟩
                    case measure => simp [intOf]; omega
                · obtain rfl : k = n := by omega
                  go_wp2
                  go_loopw [12] (fun a wx => ∃ (q : Nat), q ≤ 30 ∧ a = .int .i64 q ∧ wo = wx) (fun a _ => 30 - (intOf a).toNat)
                  case atStart => exact ⟨0, by omega, rfl, rfl⟩
                  case round =>
                    obtain ⟨q, hq, rfl, rfl⟩ := hrel
                    by_cases hql : q < 30
                    · have hv2 : wo.cell? ⟨g2, o2 + (k + q), none⟩ = some (.int .i64 (500000 + 1000 * (i : Int) + (q : Int))) := by
                        have := HR2.out g2 o2 rfl (k + q) (by omega)
                        rw [this]; unfold fullA; rw [if_neg (by omega), Nat.add_sub_cancel_left]
                      go_wp2
                      go_roundw
                      case rel => exact ⟨q + 1, by omega, by go_num, by trivial⟩
                      case measure => simp [intOf]; omega
                    · obtain rfl : q = 30 := by omega
                      go_wp2
                      go_roundw
                      case rel => exact ⟨i + 1, by omega, by go_num, by trivial⟩
                      case measure => simp [intOf]; omega
            · go_wp2
              go_ret
              exact ⟨rfl, HS.out.chg⟩
end Go.Proofs.YtcikcnkhcfhomaaDoor.Hand
/- Lists that own their memory, by their heads; some of them in a row of new memory. -/
namespace Go.Proofs.YtcikcnkhcfhomaaDoor.Hand
open Go.RowKit Go.Proofs.YtcikcnkhcfhomaaDoorW.PrintWords Go.Proofs.YtcikcnkhcfhomaaDoorW.PrintMore Go.Proofs.YtcikcnkhcfhomaaDoor.Math

/-- A list that owns its memory, by its head. -/
theorem R_hd {w : World} {e base : Nat} {v : Value} {xs : List Int} (h : (Kd.int .i64).R e w base (fun _ => True) v xs) : ∃ hd : Hd, v = .slice hd.ad hd.n hd.c ∧ hd.n = xs.length ∧ HdOk w hd ∧ ∀ g, hd.blk = some g → base ≤ g ∧ g < w.heap.size := by
  have ho := Kd.own_of_R (enc := Value.int .i64) (h1 := fun _ => rfl) h
  obtain ⟨h1, h2⟩ := ho
  rcases h2 with ⟨rfl, h0⟩ | ⟨g, cap, cur, rfl, hb, hg, hn', hc, hs, ht⟩
  · exact ⟨hd0, rfl, h0.symm, .inl ⟨rfl, rfl, rfl⟩, fun g hg => by cases hg⟩
  · have hlt := (Array.getElem?_eq_some_iff.1 hg).1
    refine ⟨⟨some ⟨g, 0, none⟩, xs.length, cap⟩, rfl, rfl, .inr ⟨g, 0, rfl, hn', hc, hlt, fun j hj => ?_, fun j => ?_⟩, fun g' hg' => ?_⟩
    · have hj' : j < cap := hj
      rw [Nat.zero_add, cell_of_row w g j cur e (0, 0) hg, Array.getElem?_eq_getElem (by omega)]; rfl
    · simp [World.frozen?, hg]
    · have : g = g' := by simpa [Hd.blk] using hg'
      omega
/-- Lists, each in memory of its own, in a row of new memory. -/
theorem hds_pre {W W' : World} {H : List Hd} (hW' : W' = W.alloc (.cells (H.map Hd.v).toArray 22)) (hl : H.length ≤ 1000000)
    (hok : ∀ h ∈ H, HdOk W h ∧ h.n ≤ 1000000000000) (hdis : ∀ i j g, i < H.length → j < H.length → i < j → (hdD H i).blk = some g → (hdD H j).blk ≠ some g) :
    ApPre W' (some ⟨W.heap.size, 0, none⟩) H := by
  subst hW'
  have hb : Below W.heap.size W (W.alloc (.cells (H.map Hd.v).toArray 22)) := below_alloc (Below.refl _ _) _
  have hm : ∀ j, j < H.length → hdD H j ∈ H := fun j hj => by
    show H.getD j hd0 ∈ H
    exact getD_mem H j hd0 hj
  refine ⟨(Kd.R_reads' (R_lit (enc := Hd.v) (h1 := fun _ => rfl) 22 W.heap.size W H (Nat.le_refl _) (by unfold maxLen; omega))).2.2, by omega, fun j hj => ?_, fun j hj => (hok _ (hm j hj)).2, fun i j g hi hj hne e1 e2 => ?_, fun j ad hj ha e => ?_⟩
  · have hh := (hok _ (hm j hj)).1
    exact hh.keep hb.size (fun g hg => hb.block g (hh.blk_lt hg))
  · rcases Nat.lt_or_gt_of_ne hne with h | h
    · exact hdis i j g hi hj h e1 e2
    · exact hdis j i g hj hi h e2 e1
  · have := (hok _ (hm j hj)).1.blk_lt e
    have e2 : ad = ⟨W.heap.size, 0, none⟩ := by simpa using ha.symm
    subst e2
    exact Nat.lt_irrefl _ this
/-- Two of them. -/
theorem two_pre {W W' : World} {h1 h2 : Hd} {b1 : Nat} (hW' : W' = W.alloc (.cells #[h1.v, h2.v] 22)) (k1 : HdOk W h1) (k2 : HdOk W h2) (n1 : h1.n ≤ 1000000000000) (n2 : h2.n ≤ 1000000000000)
    (r1 : ∀ g, h1.blk = some g → g < b1) (r2 : ∀ g, h2.blk = some g → b1 ≤ g) : ApPre W' (some ⟨W.heap.size, 0, none⟩) [h1, h2] := by
  refine hds_pre hW' (by simp) (fun h hh => ?_) (fun i j g hi hj hij e1 e2 => ?_)
  · simp only [List.mem_cons, List.not_mem_nil, or_false] at hh
    rcases hh with rfl | rfl
    · exact ⟨k1, n1⟩
    · exact ⟨k2, n2⟩
  · simp only [List.length_cons, List.length_nil] at hi hj
    obtain ⟨rfl, rfl⟩ : i = 0 ∧ j = 1 := by omega
    have := r1 g e1
    have := r2 g e2
    omega
/-- Four of them. -/
theorem four_pre {W W' : World} {h1 h2 h3 h4 : Hd} {b1 b2 b3 : Nat} (hW' : W' = W.alloc (.cells #[h1.v, h2.v, h3.v, h4.v] 22))
    (k1 : HdOk W h1) (k2 : HdOk W h2) (k3 : HdOk W h3) (k4 : HdOk W h4) (n1 : h1.n ≤ 1000000000000) (n2 : h2.n ≤ 1000000000000) (n3 : h3.n ≤ 1000000000000) (n4 : h4.n ≤ 1000000000000)
    (r1 : ∀ g, h1.blk = some g → g < b1) (r2 : ∀ g, h2.blk = some g → b1 ≤ g ∧ g < b2) (r3 : ∀ g, h3.blk = some g → b2 ≤ g ∧ g < b3) (r4 : ∀ g, h4.blk = some g → b3 ≤ g) (hs : b1 ≤ b2 ∧ b2 ≤ b3) :
    ApPre W' (some ⟨W.heap.size, 0, none⟩) [h1, h2, h3, h4] := by
  refine hds_pre hW' (by simp) (fun h hh => ?_) (fun i j g hi hj hij e1 e2 => ?_)
  · simp only [List.mem_cons, List.not_mem_nil, or_false] at hh
    rcases hh with rfl | rfl | rfl | rfl
    · exact ⟨k1, n1⟩
    · exact ⟨k2, n2⟩
    · exact ⟨k3, n3⟩
    · exact ⟨k4, n4⟩
  · simp only [List.length_cons, List.length_nil] at hi hj
    have rng : ∀ j g, j < 4 → (hdD [h1, h2, h3, h4] j).blk = some g → (j = 0 → g < b1) ∧ (j = 1 → b1 ≤ g ∧ g < b2) ∧ (j = 2 → b2 ≤ g ∧ g < b3) ∧ (j = 3 → b3 ≤ g) := fun j g hj e => by
      obtain rfl | rfl | rfl | rfl : j = 0 ∨ j = 1 ∨ j = 2 ∨ j = 3 := by omega
      · have := r1 g e; omega
      · have := r2 g e; omega
      · have := r3 g e; omega
      · have := r4 g e; omega
    have q1 := rng i g (by omega) e1
    have q2 := rng j g (by omega) e2
    obtain rfl | rfl | rfl | rfl : i = 0 ∨ i = 1 ∨ i = 2 ∨ i = 3 := by omega
    all_goals obtain rfl | rfl | rfl | rfl : j = 0 ∨ j = 1 ∨ j = 2 ∨ j = 3 := by omega
    all_goals simp at q1 q2 hij
    all_goals omega
theorem apS_ge {H : List Hd} {b g : Nat} (h : ∀ x ∈ H, ∀ g, x.blk = some g → b ≤ g) (hg : ApS H g) : b ≤ g := by
  obtain ⟨j, hj, e⟩ := hg
  exact h _ (getD_mem H j hd0 hj) g e
end Go.Proofs.YtcikcnkhcfhomaaDoor.Hand
/- Contracts of dovetailkit: are two lists the same? -/
namespace Go.Proofs.YtcikcnkhcfhomaaDoor.Hand
open Go.RowKit Go.Proofs.YtcikcnkhcfhomaaDoorW.PrintWords Go.Proofs.YtcikcnkhcfhomaaDoorW.PrintMore Go.Proofs.YtcikcnkhcfhomaaDoor.Math

/-- Are two lists the same? -/
theorem ints_calls (A B : Option Addr) (c d : Nat) (l m : List Int) (w : World) (hr : Kd.C (Kd.int .i64) w A l.length l) (hq : Kd.C (Kd.int .i64) w B m.length m) : Quiet 18 #[.slice A l.length c, .slice B m.length d] w (.bool (decide (l = m))) := by
  unfold Quiet
  have hlen := hr.2.1
  have hlen2 := hq.2.1
  have HR := Lib.hid hr
  have HQ := Lib.hid hq
  clear hr hq
  by_cases hl : l.length = m.length
  · have hlI : ((l.length : Int) == (m.length : Int)) = true := by simp [hl]
    have HL := Lib.hid hl
    go_enter Tryd.func18, Tryd.ntmps18
    go_wp2
    go_loopw [5] (fun i wr => ∃ (j d : Nat), j ≤ l.length ∧ i = .int .i64 j ∧ wr = w.drewN d ∧ Hid (l.take j = m.take j)) (fun i _ => l.length - (intOf i).toNat)
    case atStart => exact ⟨0, 0, by omega, rfl, rfl, Lib.hid (by simp)⟩
    case round =>
      obtain ⟨j, d, hj, rfl, rfl, HT⟩ := hrel
      by_cases hlt : j < l.length
      · obtain ⟨ad, y, rfl, hc, HY⟩ := at_scalar HR.out j hlt 0
        obtain ⟨ad2, y2, rfl, hc2, HY2⟩ := at_scalar HQ.out j (by omega) 0
        have hlt2 : j < m.length := by omega
        by_cases e : y = y2
        · subst e
          go_wp2
          go_quiet (fail)
          go_wp2
          go_roundw
          case rel => exact ⟨j + 1, _, by omega, by go_num, rfl, Lib.hid (by rw [take_snocD l j 0 hlt, take_snocD m j 0 hlt2, HT.out, HY.out, HY2.out])⟩
          case measure => simp [intOf]; omega
        · have HE : Hid (decide (l = m) = false) := Lib.hid (decide_eq_false (fun h => e (by rw [← HY.out, ← HY2.out, h])))
          have HN := Lib.hid e
          have hn : ((y : Int) == y2) = false := by simpa using e
          clear e
          go_wp2
          go_quiet (fail)
          go_wp2
          go_ret
          exact ⟨ret_bool HE.out.symm, _, World.drewN_drewN _ _ _⟩
      · have HE : Hid (decide (l = m) = true) := Lib.hid (decide_eq_true (by
          have := HT.out
          rwa [List.take_of_length_le (by omega), List.take_of_length_le (by have := HL.out; omega)] at this))
        go_wp2
        go_ret
        exact ⟨ret_bool HE.out.symm, _, rfl⟩
  · have HE : Hid (decide (l = m) = false) := Lib.hid (decide_eq_false (fun h => hl (by rw [h])))
    have hlI : ((l.length : Int) == (m.length : Int)) = false := by simp; omega
    have hlN : decide (l.length = m.length) = false := by simp [hl]
    have HL := Lib.hid hl
    clear hl
    go_enter Tryd.func18, Tryd.ntmps18
    go_wp2
    go_ret
    exact ⟨ret_bool HE.out.symm, 0, rfl⟩
end Go.Proofs.YtcikcnkhcfhomaaDoor.Hand
/- PlanReads: every text as a bracketing, or what is wrong, and where. -/
namespace Go.Proofs.YtcikcnkhcfhomaaDoor.Hand
open Go.ChangeShapes
open Go.RowKit Go.Proofs.YtcikcnkhcfhomaaDoorW.PrintWords Go.Proofs.YtcikcnkhcfhomaaDoorW.PrintMore Go.Proofs.YtcikcnkhcfhomaaDoor.Math

theorem Quiet.mono {f : FuncId} {args : Array Value} {w : World} {v : Value} {Q : Ending → World → Prop} (h : Quiet f args w v) (k : ∀ e w', (e = .returned v ∧ ∃ n, w' = w.drewN n) → Q e w') : Calls Tryd.prog f args w Q := Calls.mono h k
theorem laidMetH_nons {P : Program} {l : List (String × DataW Unit)} {W : World} (h : laidMetH P l W) : laidMetH P (l.filter fun x => x.2.handleName?.isNone) W := by
  have hp : ((l.filter fun x => x.2.handleName?.isNone).all fun x => x.2.handleName?.isNone) = true := by
    rw [List.all_eq_true]
    intro x hx
    exact (List.mem_filter.1 hx).2
  rw [MakeChecks.laidMetH_plain _ _ _ hp]
  unfold laidMetH at h
  split at h
  · rename_i he
    rw [List.filter_eq_nil_iff] at he
    have e : (l.filter fun x => x.2.handleName?.isNone) = l := by
      rw [List.filter_eq_self]
      intro x hx
      have := he x hx
      cases hn : x.2.handleName? with
      | none => rfl
      | some s => rw [hn] at this; simp at this
    rw [e]
    exact h
  · exact h.1
theorem errTy_rt : (Tryd.prog.cutTypes.find? (·.1 == "internal/reflectlite.rtype")).map (·.2) = some 103 := by kernel_rfl
theorem errTy_named : Tryd.prog.globalNamed "errors.errorType" = some 15 := by kernel_rfl
theorem errTy_row : ((List.range Tryd.prog.types.size).filter fun t => Tryd.prog.rowNamed t [101, 114, 114, 111, 114]) = [25] := by kernel_rfl
theorem errTy_handle : typeHandle Tryd.prog 25 = .pointer (some ⟨19, 25, none⟩) := by kernel_rfl
theorem laid_errTy {l : List (String × DataW Unit)} {W : World} (h : laidMetH Tryd.prog l W) (hm : (l.filter fun x => x.2.handleName?.isSome) = [("errors.errorType", Rows.laid_errors_errorType)]) : ErrTy W := by
  unfold laidMetH at h
  rw [hm] at h
  obtain ⟨name, u, ty, e1, e2, e3, e4, e5⟩ := h.2 _ (List.mem_singleton.2 rfl)
  have en : name = [101, 114, 114, 111, 114] := (Option.some.inj e1).symm
  subst en
  obtain rfl := Option.some.inj (errTy_rt.symm.trans e2)
  have hm : ty ∈ (List.range Tryd.prog.types.size).filter fun t => Tryd.prog.rowNamed t [101, 114, 114, 111, 114] := List.mem_filter.2 ⟨List.mem_range.2 e3, e4⟩
  rw [errTy_row] at hm
  obtain rfl := List.mem_singleton.1 hm
  rw [errTy_handle] at e5
  unfold ErrTy
  simpa using World.var?_cell errTy_named e5 0
theorem RC_hd {e base : Nat} {w : World} {v : Value} {xs : List Int} (h : RC (Kd.int .i64) e w base v xs) : ∃ A c, v = .slice A xs.length c ∧ HdOk w ⟨A, xs.length, c⟩ ∧ ∀ g, (⟨A, xs.length, c⟩ : Hd).blk = some g → base ≤ g ∧ g < w.heap.size := by
  obtain ⟨A, c, cap, rfl, hc, hR⟩ := h
  obtain ⟨⟨A', n', c'⟩, h1, h2, h3, h4⟩ := R_hd hR
  injection h1 with e1 e2 e3
  subst e1 e2 e3
  refine ⟨A, c, rfl, ?_, fun g hg => h4 g hg⟩
  rcases h3 with ⟨q1, q2, q3⟩ | ⟨g, o, q1, q2, q3, q4, q5, q6⟩
  · simp only at q1 q2 q3
    refine .inl ⟨q1, q2, ?_⟩
    show c = 0
    rcases hc with rfl | rfl <;> omega
  · simp only at q1 q2 q3 q5
    refine .inr ⟨g, o, q1, ?_, ?_, q4, fun j hj => q5 j ?_, q6⟩
    · show xs.length ≤ c; rcases hc with rfl | rfl <;> omega
    · show c ≤ maxLen; rcases hc with rfl | rfl <;> omega
    · have hj' : j < c := hj
      rcases hc with rfl | rfl <;> omega
theorem rdO_len (s : ByteArray) : (rdO s).length ≤ 1048576 := by
  unfold rdO
  cases hr : rdR s with
  | none => simp
  | some r =>
    cases r with
    | bad i => simp
    | ok m o =>
      simp only
      unfold rdR at hr
      split at hr
      · cases hr
      · rename_i hz
        injection hr with hr
        unfold readR at hr
        have hb := part_bound s.data.toList (s.data.toList.length + 1) 0 0 0 [] (Nat.zero_le _)
        have hl : s.data.toList.length = s.size := by rw [Array.length_toList]; rfl
        simp only at hr
        split at hr
        · split at hr
          · cases hr
          · injection hr with h1 h2
            unfold oI
            rw [← h2, List.length_map]
            have := hb.2.2.2
            have := hb.2.1
            simp at this
            simp only [List.length_nil] at *
            omega
        · cases hr
theorem rdQP (s : ByteArray) : (rdQ s = -1 ∧ rdP s = -1) ∨ (rdQ s ≤ -2 ∧ rdP s = -2 - rdQ s) := by
  unfold rdQ rdP
  cases rdR s with
  | none => exact .inl ⟨rfl, rfl⟩
  | some r =>
    cases r with
    | ok m o => exact .inl ⟨rfl, rfl⟩
    | bad i => exact .inr ⟨by simp only; omega, by simp only; omega⟩
theorem placeV {w : World} {A : Nat → Addr} {v : Value} {k : Nat} {q P : Int} (hv : ErrV w A v k q) (hT : ErrTy w) (hq : (q = -1 ∧ P = -1) ∨ (q ≤ -2 ∧ P = -2 - q)) : Calls Tryd.prog 32 #[v] w fun e w' => e = .returned (.int .i64 P) ∧ Below w.heap.size w w' := by
  cases hv with
  | none =>
    obtain rfl : P = -1 := by omega
    exact place_nil w
  | sent i hi =>
    obtain rfl : P = -1 := by omega
    exact place_sent _ w hT
  | place i hi pb po r h0 h1 =>
    obtain rfl : P = r := by omega
    exact place_place pb po P w hT h0
set_option maxHeartbeats 4000000 in
set_option maxRecDepth 100000 in
theorem planReads_walk {w : World} (txt : ByteArray) (hz : txt.size ≤ 140737488351232) (hE : ∃ Ae, Errs w Ae) (hP : Pow10 w) (hT : ErrTy w) :
    Calls Tryd.prog 8 #[.string txt] w fun e w' => e = .returned (.bool true) ∧ Below w.heap.size w w' := by
  obtain ⟨Ae, hE⟩ := hE
  have HE := Lib.hid hE
  have HAw0 : Hid (∀ W, Below w.heap.size w W → Calls Tryd.prog 11 #[] W fun e w' => e = .returned (.bool true) ∧ Below w.heap.size w w') := Lib.hid (fun W hW =>
    (awake_calls W Ae ((HE.out.below hW).someL _ (by decide))).mono (fun e w' h => ⟨h.1, below_next hW h.2⟩))
  have HP := Lib.hid hP
  have HTy := Lib.hid hT
  clear hE hP hT
  by_cases hg : 20000 < txt.size ∧ txt.size ≤ 1048576
  · have g1 : (20000 : Int) < (txt.size : Int) := by omega
    have g2 : (txt.size : Int) ≤ 1048576 := by omega
    clear hg
    go_enter Tryd.func8, Tryd.ntmps8
    go_wp2_with (go_at_call 11; refine (HAw0.out _ (Below.refl _ _)).mono ?_; rintro e w9 ⟨rfl, hb⟩; have HB9 := Lib.hid hb; clear hb)
    go_ret
    exact ⟨rfl, HB9.out⟩
  · have hcase : ¬ (20000 : Int) < (txt.size : Int) ∨ ((20000 : Int) < (txt.size : Int) ∧ ¬ (txt.size : Int) ≤ 1048576) := by omega
    clear hg
    obtain ⟨M, hM⟩ : ∃ M, rdM txt = M := ⟨_, rfl⟩
    obtain ⟨L, hL⟩ : ∃ L, rdO txt = L := ⟨_, rfl⟩
    obtain ⟨K, hK⟩ : ∃ K, rdE txt = K := ⟨_, rfl⟩
    obtain ⟨P, hPp⟩ : ∃ P, rdP txt = P := ⟨_, rfl⟩
    have hLl : L.length ≤ 1048576 := by rw [← hL]; exact rdO_len txt
    have HQP := Lib.hid (rdQP txt)
    rw [hPp] at HQP
    have HRd : Hid (∀ W, Below w.heap.size w W → Calls Tryd.prog 30 #[.string txt] W fun e w' => ∃ v ev, e = .returned (.tuple #[.int .i64 (M : Nat), v, ev]) ∧ RC (Kd.int .i64) 3 w' W.heap.size v L ∧ ErrV w' Ae ev K (rdQ txt) ∧ Below W.heap.size W w') := Lib.hid (fun W hW => by
      rw [← hM, ← hL, ← hK]
      exact read_calls txt W Ae ((HE.out.below hW).someL _ (by decide)) (HP.out.below hW))
    have HRf : Hid (∀ W, Calls Tryd.prog 31 #[.string txt] W fun e w' => ∃ v, e = .returned (.tuple #[.int .i64 (M : Nat), v, .int .i64 (K : Nat), .int .i64 P]) ∧ RC (Kd.int .i64) 3 w' W.heap.size v L ∧ Below W.heap.size W w') := Lib.hid (fun W => by
      rw [← hM, ← hL, ← hK, ← hPp]
      exact refRead_calls txt W)
    clear hM hL hK hPp
    rcases hcase with g1 | ⟨g1, g2⟩
    all_goals
      go_enter Tryd.func8, Tryd.ntmps8
      go_upto_region 6 with (first
        | (go_at_call 31; refine (HRf.out w2).mono ?_; rintro e w3 ⟨v3, rfl, ho, hb⟩; have HO3 := Lib.hid ho; have HB3 := Lib.hid hb; clear ho hb)
        | (go_at_call 30; refine (HRd.out w1 HB1.out).mono ?_; rintro e w2 ⟨v2, ev2, rfl, ho, he, hb⟩; have HO2 := Lib.hid ho; have HB2 := Lib.hid hb; clear ho he hb)
        | (go_at_call 30; refine (HRd.out w (Below.refl _ _)).mono ?_; rintro e w1 ⟨v1, ev1, rfl, ho, he, hb⟩; have HO1 := Lib.hid ho; have HV1 := Lib.hid he; have HB1 := Lib.hid hb; clear ho he hb))
      have hs1 := HB1.out.size
      have hs2 := HB2.out.size
      have hs3 := HB3.out.size
      have b13 : Below w1.heap.size w1 w3 := below_next HB2.out HB3.out
      have HB := Lib.hid (below_next HB1.out b13)
      have kk : ∀ {W W' : World} {h : Hd}, HdOk W h → Below W.heap.size W W' → HdOk W' h := fun hh hb => hh.keep hb.size (fun g hg => hb.block g (hh.blk_lt hg))
      have hc1 := HO1.out.reads
      have hc2 := HO2.out.reads
      have hc3 := HO3.out.reads
      obtain ⟨A1, c1, e1, k1, r1⟩ := RC_hd HO1.out
      obtain ⟨A2, c2, e2, k2, r2⟩ := RC_hd HO2.out
      obtain ⟨A3, c3, e3, hq3, hC3⟩ := hc3
      obtain ⟨A1', c1', e1', -, hC1⟩ := hc1
      obtain ⟨A2', c2', e2', -, hC2⟩ := hc2
      obtain ⟨rfl, -, rfl⟩ : A1 = A1' ∧ L.length = L.length ∧ c1 = c1' := by rw [e1] at e1'; simpa using e1'
      obtain ⟨rfl, -, rfl⟩ : A2 = A2' ∧ L.length = L.length ∧ c2 = c2' := by rw [e2] at e2'; simpa using e2'
      subst e1 e2 e3
      clear e1' e2'
      have HKd := Lib.hid (kind_calls (HE.out.below HB.out) (HV1.out.below b13))
      have HPl : Hid (∀ W, Below w3.heap.size w3 W → Calls Tryd.prog 32 #[ev1] W fun e w' => e = .returned (.int .i64 P) ∧ Below W.heap.size W w') := Lib.hid (fun W hW => placeV ((HV1.out.below b13).below hW) (HTy.out.below (below_next HB.out hW)) HQP.out)
      have HI1 : Hid (∀ W, Below w3.heap.size w3 W → Quiet 18 #[.slice A1 L.length c1, .slice A3 L.length c3] W (.bool true)) := Lib.hid (fun W hW => by
        have := ints_calls A1 A3 c1 c3 L L W (Kd.C_below (Kd.C_below hC1 b13) hW) (Kd.C_below hC3 hW)
        rwa [decide_eq_true rfl] at this)
      have HI2 : Hid (∀ W, Below w3.heap.size w3 W → Quiet 18 #[.slice A2 L.length c2, .slice A3 L.length c3] W (.bool true)) := Lib.hid (fun W hW => by
        have := ints_calls A2 A3 c2 c3 L L W (Kd.C_below (Kd.C_below hC2 HB3.out) hW) (Kd.C_below hC3 hW)
        rwa [decide_eq_true rfl] at this)
      have HAp : Hid (∀ W, Below w3.heap.size w3 W → Calls Tryd.prog 19 #[.slice (some ⟨W.heap.size, 0, none⟩) 2 2] (W.alloc (.cells #[.slice A1 L.length c1, .slice A2 L.length c2] 22)) fun e w' => e = .returned (.bool true) ∧ Below w.heap.size w w') := Lib.hid (fun W hW => by
        have hpre := two_pre (W := W) (h1 := ⟨A1, L.length, c1⟩) (h2 := ⟨A2, L.length, c2⟩) (b1 := w1.heap.size) rfl (kk (kk k1 b13) hW) (kk (kk k2 HB3.out) hW) (by show L.length ≤ _; omega) (by show L.length ≤ _; omega) (fun g hg => (r1 g hg).2) (fun g hg => (r2 g hg).1)
        refine (apartInts_calls _ 2 _ _ hpre).mono ?_
        rintro e w' ⟨rfl, hc⟩
        have hb8 : Below w.heap.size w (W.alloc (.cells #[.slice A1 L.length c1, .slice A2 L.length c2] 22)) := below_alloc (below_next HB.out hW) _
        refine ⟨rfl, hb8.trans (hc.below hb8.size (fun k hk hS => ?_))⟩
        have := apS_ge (b := w.heap.size) (fun x hx g hg => by
          simp only [List.mem_cons, List.not_mem_nil, or_false] at hx
          rcases hx with rfl | rfl
          · exact (r1 g hg).1
          · have := (r2 g hg).1; omega) hS
        omega)
      clear hs1 hs2 hs3 b13 kk k1 k2 r1 r2 hC1 hC2 hC3 HRd HRf
      go_wp2_with (first
        | (go_at_call 23; (with_reducible refine HKd.out.mono ?_); rintro e w4 ⟨rfl, hb⟩; have HB4 := Lib.hid hb; clear hb)
        | (go_at_call 32; (with_reducible refine (HPl.out w4 HB4.out).mono ?_); rintro e w5 ⟨rfl, hb⟩; have HB5 := Lib.hid (below_next HB4.out hb); clear hb)
        | (go_at_call 18; (with_reducible refine (HI1.out w5 HB5.out).mono ?_); rintro e w' ⟨rfl, n1, rfl⟩)
        | (go_at_call 18; (with_reducible refine (HI2.out _ (pw_below_drewN HB5.out _)).mono ?_); rintro e w' ⟨rfl, n2, rfl⟩)
        | (go_at_call 19; (refine (HAp.out _ (pw_below_drewN HB5.out _)).mono ?_); rintro e w6 ⟨rfl, hb⟩; have HB6 := Lib.hid hb; clear hb)
        | (go_at_call 11; refine (HAw0.out _ HB6.out).mono ?_; rintro e w9 ⟨rfl, hb⟩; have HB9 := Lib.hid hb; clear hb))
      go_ret
      exact ⟨ret_bool (by simp), HB9.out⟩
end Go.Proofs.YtcikcnkhcfhomaaDoor.Hand
/- Kinds of my own: elements that may be the mark, rows lent with a mark behind them, rules, grammars. -/
namespace Go.Proofs.YtcikcnkhcfhomaaDoor.Hand
open Go.RowKit Go.Proofs.YtcikcnkhcfhomaaDoorW.PrintWords Go.Proofs.YtcikcnkhcfhomaaDoorW.PrintMore Go.Proofs.YtcikcnkhcfhomaaDoor.Math

/-- Elements of a kind, or the mark: these cells. -/
def KOpt {α : Type} (a : Kd α) (c : List Value) (hc : c.length = a.sz) (h1 : ∀ u ∈ c, u.oneCell' = true) : Kd (Option α) where
  sz := a.sz
  E := a.E
  K := fun w x cs => match x with | none => cs = c | some y => a.K w y cs
  M := fun w base ok x cs => match x with | none => cs = c | some y => a.M w base ok y cs
  K_len := by
    intro w x cs h
    cases x with
    | none => exact (show cs = c from h) ▸ hc
    | some y => exact a.K_len h
  K_one := by
    intro w x cs h u hu
    cases x with
    | none => exact h1 u ((show cs = c from h) ▸ hu)
    | some y => exact a.K_one h u hu
  K_below := by
    intro w w1 x cs hb h
    cases x with
    | none => exact h
    | some y => exact a.K_below hb h
  K_of_M := by
    intro w base ok x cs h
    cases x with
    | none => exact h
    | some y => exact a.K_of_M h
  M_mono := by
    intro w base ok ok' x cs hok h
    cases x with
    | none => exact h
    | some y => exact a.M_mono hok h
  M_bound := by
    intro w base ok x cs h
    cases x with
    | none => exact h
    | some y => exact a.M_bound h
  M_move := by
    intro w w1 base ok x cs hm h
    cases x with
    | none => exact h
    | some y => exact a.M_move hm h
  M_lower := by
    intro w base base' ok x cs hb h
    cases x with
    | none => exact h
    | some y => exact a.M_lower hb h
/-- A slice over a row that is one longer: the last element is the mark. -/
def KLent {α : Type} (e : Nat) (a : Kd (Option α)) : Kd (List α) where
  sz := 1
  E := e :: a.E
  K := fun w xs cs => ∃ A c, cs = [.slice A xs.length c] ∧ xs.length + 1 ≤ c ∧ a.C w A (xs.length + 1) (xs.map some ++ [none])
  M := fun w base ok xs cs => ∃ A c, cs = [.slice A xs.length c] ∧ xs.length + 1 ≤ c ∧ a.R e w base ok (.slice A (xs.length + 1) c) (xs.map some ++ [none])
  K_len := by rintro w x cs ⟨A, c, rfl, _⟩; rfl
  K_one := by
    rintro w x cs ⟨A, c, rfl, _⟩ u hu
    rw [List.mem_singleton.1 hu]; rfl
  K_below := by rintro w w1 x cs hb ⟨A, c, rfl, hl, hr⟩; exact ⟨A, c, rfl, hl, Kd.C_below hr hb⟩
  K_of_M := by
    rintro w base ok x cs ⟨A, c, rfl, hl, h⟩
    have := (Kd.R_reads' h).2.2
    exact ⟨A, c, rfl, hl, by simpa using this⟩
  M_mono := by rintro w base ok ok' x cs hok ⟨A, c, rfl, hl, h⟩; exact ⟨A, c, rfl, hl, Kd.R_mono h hok⟩
  M_bound := by rintro w base ok x cs ⟨A, c, rfl, hl, h⟩; exact ⟨A, c, rfl, hl, Kd.R_bound h⟩
  M_move := by rintro w w1 base ok x cs hm ⟨A, c, rfl, hl, h⟩; exact ⟨A, c, rfl, hl, Kd.R_move h hm⟩
  M_lower := by rintro w base base' ok x cs hb ⟨A, c, rfl, hl, h⟩; exact ⟨A, c, rfl, hl, Kd.R_lower h hb⟩
theorem C_imp {α β : Type} {a : Kd α} {b : Kd β} (hs : b.sz = a.sz) {w : World} {A : Option Addr} {n : Nat} {l : List α} {m : List β} (h : a.C w A n l) (hl : m.length = l.length) (hi : ∀ (j : Nat) (x : α) (y : β) (cs : List Value), l[j]? = some x → m[j]? = some y → a.K w x cs → b.K w y cs) : b.C w A n m := by
  obtain ⟨h1, h2, h3⟩ := h
  refine ⟨hl.trans h1, h2, fun hn => ?_⟩
  obtain ⟨ad, ha, hc⟩ := h3 hn
  refine ⟨ad, ha, fun j p hj => ?_⟩
  have hj2 : j < l.length := by have := (List.getElem?_eq_some_iff.1 hj).1; omega
  obtain ⟨c, e1, e2, e3⟩ := hc j l[j] (List.getElem?_eq_getElem hj2)
  exact ⟨c, by rw [hs]; exact e1, hi j _ _ c (List.getElem?_eq_getElem hj2) hj e2, by rw [hs]; exact e3⟩
theorem C_some {α : Type} {a : Kd α} {b : Kd (Option α)} (hs : b.sz = a.sz) {w : World} {A : Option Addr} {n : Nat} {l : List α} (h : a.C w A n l) (hi : ∀ (x : α) (cs : List Value), a.K w x cs → b.K w (some x) cs) : b.C w A n (l.map some) :=
  C_imp (a := a) (b := b) hs h (by simp) (fun j x y cs hx hy hk => by
    rw [List.getElem?_map, hx] at hy
    cases hy
    exact hi _ _ hk)
/-- What was lent reads as a list. -/
theorem lent_C {α : Type} {a : Kd α} {c hc h1} {w : World} {A : Option Addr} {l : List α} (h : (KOpt a c hc h1).C w A (l.length + 1) (l.map some ++ [none])) : a.C w A l.length l := by
  have h2 : (KOpt a c hc h1).C w A (l.map some).length (l.map some) := Kd.C_takeN h
  rw [List.length_map] at h2
  refine C_imp (a := KOpt a c hc h1) (b := a) rfl h2 (by simp) (fun j x y cs hx hy hk => ?_)
  rw [List.getElem?_map, hy] at hx
  cases hx
  exact hk
/-- The mark's cells. -/
theorem lent_mark {α : Type} {a : Kd α} {c hc h1} {w : World} {A : Option Addr} {l : List α} (h : (KOpt a c hc h1).C w A (l.length + 1) (l.map some ++ [none])) : ∃ ad, A = some ad ∧ ∀ i u, c[i]? = some u → w.cell? (ad.add (l.length * a.sz + i)) = some u := by
  obtain ⟨_, _, h3⟩ := h
  obtain ⟨ad, ha, hcc⟩ := h3 (by omega)
  refine ⟨ad, ha, ?_⟩
  obtain ⟨cs, e1, e2, e3⟩ := hcc l.length none (by simp)
  have : cs = c := e2
  subst this
  exact e3
/-- A rule: its left side, and its right side as a slice. -/
def KRule : Kd (Int × List Int) := Kd.pair (Kd.int .i64) (Kd.slice 3 (Kd.int .i64))
def KMInt : Kd (Option Int) := KOpt (Kd.int .i64) [.int .i64 (-7171)] rfl (by simp [Value.oneCell'])
def KLInts : Kd (List Int) := KLent 3 KMInt
def KMString : Kd (Option ByteArray) := KOpt Kd.string [.string ⟨#[109, 97, 114, 107]⟩] rfl (by simp [Value.oneCell'])
def KLStrings : Kd (List ByteArray) := KLent 9 KMString
def KLRule : Kd (Int × List Int) := Kd.pair (Kd.int .i64) KLInts
def KMRule : Kd (Option (Int × List Int)) := KOpt KLRule [.int .i64 (-7171), .slice none 0 0] rfl (by simp [Value.oneCell'])
theorem KLInts_plain {w : World} {l : List Int} {cs : List Value} (h : KLInts.K w l cs) : (Kd.slice 3 (Kd.int .i64)).K w l cs := by
  obtain ⟨A, c, rfl, hl, hr⟩ := h
  exact ⟨A, c, rfl, by omega, lent_C hr⟩
theorem KLRule_plain {w : World} {r : Int × List Int} {cs : List Value} (h : KLRule.K w r cs) : KRule.K w r cs := by
  obtain ⟨c0, c1, rfl, h0, h1⟩ := h
  exact ⟨c0, c1, rfl, h0, KLInts_plain h1⟩
theorem lentRules_C {w : World} {A : Option Addr} {l : List (Int × List Int)} (h : KMRule.C w A (l.length + 1) (l.map some ++ [none])) : KRule.C w A l.length l :=
  C_imp (a := KLRule) (b := KRule) rfl (lent_C (a := KLRule) h) rfl (fun j x y cs hx hy hk => by rw [hx] at hy; cases hy; exact KLRule_plain hk)
/-- A grammar, plainly. -/
structure Gr where
  terms : List ByteArray
  nonterms : List ByteArray
  ax : Int
  rules : List (Int × List Int)
/-- A grammar's value, and what it leads to. -/
def GramAt (w : World) (v : Value) (g : Gr) : Prop :=
  ∃ AT cT AN cN AR cR, v = .agg #[.slice AT g.terms.length cT, .slice AN g.nonterms.length cN, .int .i64 g.ax, .slice AR g.rules.length cR] ∧ g.terms.length ≤ cT ∧ g.nonterms.length ≤ cN ∧ g.rules.length ≤ cR ∧
    Kd.C Kd.string w AT g.terms.length g.terms ∧ Kd.C Kd.string w AN g.nonterms.length g.nonterms ∧ KRule.C w AR g.rules.length g.rules
/-- A grammar that was lent: marks behind all its lists. -/
def GramL (w : World) (v : Value) (g : Gr) : Prop :=
  ∃ AT cT AN cN AR cR, v = .agg #[.slice AT g.terms.length cT, .slice AN g.nonterms.length cN, .int .i64 g.ax, .slice AR g.rules.length cR] ∧ g.terms.length + 1 ≤ cT ∧ g.nonterms.length + 1 ≤ cN ∧ g.rules.length + 1 ≤ cR ∧
    KMString.C w AT (g.terms.length + 1) (g.terms.map some ++ [none]) ∧ KMString.C w AN (g.nonterms.length + 1) (g.nonterms.map some ++ [none]) ∧ KMRule.C w AR (g.rules.length + 1) (g.rules.map some ++ [none])
theorem GramAt.below {w w' : World} {v : Value} {g : Gr} (h : GramAt w v g) (hb : Below w.heap.size w w') : GramAt w' v g := by
  obtain ⟨AT, cT, AN, cN, AR, cR, rfl, h1, h2, h3, h4, h5, h6⟩ := h
  exact ⟨AT, cT, AN, cN, AR, cR, rfl, h1, h2, h3, Kd.C_below h4 hb, Kd.C_below h5 hb, Kd.C_below h6 hb⟩
theorem GramL.below {w w' : World} {v : Value} {g : Gr} (h : GramL w v g) (hb : Below w.heap.size w w') : GramL w' v g := by
  obtain ⟨AT, cT, AN, cN, AR, cR, rfl, h1, h2, h3, h4, h5, h6⟩ := h
  exact ⟨AT, cT, AN, cN, AR, cR, rfl, h1, h2, h3, Kd.C_below h4 hb, Kd.C_below h5 hb, Kd.C_below h6 hb⟩
theorem GramL.plain {w : World} {v : Value} {g : Gr} (h : GramL w v g) : GramAt w v g := by
  obtain ⟨AT, cT, AN, cN, AR, cR, rfl, h1, h2, h3, h4, h5, h6⟩ := h
  exact ⟨AT, cT, AN, cN, AR, cR, rfl, by omega, by omega, by omega, lent_C h4, lent_C h5, lentRules_C h6⟩
theorem GramAt.drewN {w : World} {v : Value} {g : Gr} (h : GramAt w v g) (n : Nat) : GramAt (w.drewN n) v g := h.below (pw_below_drewN (Below.refl _ _) _)
theorem GramL.drewN {w : World} {v : Value} {g : Gr} (h : GramL w v g) (n : Nat) : GramL (w.drewN n) v g := h.below (pw_below_drewN (Below.refl _ _) _)
theorem add_field (a : Addr) (n f : Nat) : a.add (n + (f + 1)) = ⟨(a.add n).block, (a.add n).off + (f + 1), none⟩ := by
  unfold Addr.add
  by_cases h : n = 0
  · subst h; simp
  · simp [h]; omega
/-- What is read of rule i. -/
theorem at_rule {w : World} {A : Option Addr} {l : List (Int × List Int)} (h : KRule.C w A l.length l) (i : Nat) (hi : i < l.length) :
    ∃ (ad : Addr) (x : Int) (B : Option Addr) (c : Nat) (r : List Int), A = some ad ∧ w.cell? (ad.add (i * 2)) = some (.int .i64 x) ∧ w.cell? ⟨(ad.add (i * 2)).block, (ad.add (i * 2)).off + 1, none⟩ = some (.slice B r.length c) ∧ r.length ≤ c ∧ Kd.C (Kd.int .i64) w B r.length r ∧ Hid (l.getD i (0, []) = (x, r)) := by
  obtain ⟨ad, cs, h1, h2, h3, h4⟩ := h.get_ (0, []) (i : Int) (by omega) (by omega)
  rw [Int.toNat_natCast] at h3 h4
  obtain ⟨c0, c1, rfl, k0, B, c, rfl, hl, hr⟩ := h3
  have e0 : c0 = [.int .i64 (l.getD i (0, [])).1] := k0
  subst e0
  have hz : KRule.sz = 2 := rfl
  rw [hz] at h4
  refine ⟨ad, (l.getD i (0, [])).1, B, c, (l.getD i (0, [])).2, h1, ?_, ?_, hl, hr, Lib.hid rfl⟩
  · have := h4 0 _ rfl; simpa using this
  · rw [← add_field]; exact h4 1 _ rfl
theorem at_lrule {w : World} {A : Option Addr} {l : List (Int × List Int)} (h : KMRule.C w A (l.length + 1) (l.map some ++ [none])) (i : Nat) (hi : i < l.length) :
    ∃ (ad : Addr) (x : Int) (B : Option Addr) (c : Nat) (r : List Int), A = some ad ∧ w.cell? (ad.add (i * 2)) = some (.int .i64 x) ∧ w.cell? ⟨(ad.add (i * 2)).block, (ad.add (i * 2)).off + 1, none⟩ = some (.slice B r.length c) ∧ r.length + 1 ≤ c ∧ KMInt.C w B (r.length + 1) (r.map some ++ [none]) ∧ Hid (l.getD i (0, []) = (x, r)) := by
  have h' : KLRule.C w A l.length l := lent_C (a := KLRule) h
  obtain ⟨ad, cs, h1, h2, h3, h4⟩ := h'.get_ (0, []) (i : Int) (by omega) (by omega)
  rw [Int.toNat_natCast] at h3 h4
  obtain ⟨c0, c1, rfl, k0, B, c, rfl, hl, hr⟩ := h3
  have e0 : c0 = [.int .i64 (l.getD i (0, [])).1] := k0
  subst e0
  have hz : KLRule.sz = 2 := rfl
  rw [hz] at h4
  refine ⟨ad, (l.getD i (0, [])).1, B, c, (l.getD i (0, [])).2, h1, ?_, ?_, hl, hr, Lib.hid rfl⟩
  · have := h4 0 _ rfl; simpa using this
  · rw [← add_field]; exact h4 1 _ rfl
end Go.Proofs.YtcikcnkhcfhomaaDoor.Hand
/- Contracts of dovetailkit's lent and kept lists, rules, grammars. -/
namespace Go.Proofs.YtcikcnkhcfhomaaDoor.Hand
open Go.RowKit Go.Proofs.YtcikcnkhcfhomaaDoorW.PrintWords Go.Proofs.YtcikcnkhcfhomaaDoorW.PrintMore Go.Proofs.YtcikcnkhcfhomaaDoor.Math

theorem lentInts_calls (A0 : Option Addr) (c0 : Nat) (l0 : List Int) (w : World) (hr0 : Kd.C (Kd.int .i64) w A0 l0.length l0) (hl : (l0.length + 1) * 8 ≤ 140737488355328) :
    Calls Tryd.prog 20 #[.slice A0 l0.length c0] w fun e w' => ∃ A c, e = .returned (.slice A l0.length c) ∧ l0.length + 1 ≤ c ∧ KMInt.R 3 w' w.heap.size (fun _ => True) (.slice A (l0.length + 1) c) (l0.map some ++ [none]) ∧ Below w.heap.size w w' := by
  have HR0 := Aside0.mk (C_some (a := (Kd.int .i64)) (b := KMInt) rfl hr0 (fun _ _ h => h))
  have HL := Aside0.mk hl
  clear hr0 hl
  have HB := Aside0.mk (Below.refl w.heap.size w)
  go_enter Tryd.func20, Tryd.ntmps20
  go_wp2_with (first
    | ((with_reducible refine gate_builtin (b := .append) (xs := #[.tmp 4, .tmp 5]) rfl ?_); at_builtin; refine Kd.R_append_rows KMInt (w0 := w) w.heap.size rfl (.tmp 4) (.tmp 5) 22 3 (.int .i64 0) 8 rfl Tryd.underlying22 infoInt rfl (by decide) (by omega) (.slice none 0 0) ([] : List (Option Int)) (l0.map some) _ _ _ (fun _ => True) (fun _ => False) rfl rfl (Kd.R_nil _ _ _ _ _) HR0.out (fun _ _ h => h) (fun _ h => h.elim) (fun _ _ => trivial) HB.out (Nat.le_refl _) (by have := HL.out; simp at this ⊢; omega) ?_; intro v1 w1 ho hb _ _; have HO := Aside0.mk ho; have HB1 := Aside0.mk hb; clear ho hb)
    | ((with_reducible refine gate_builtin (b := .append) (xs := #[.tmp 7, .tmp 8]) rfl ?_); at_builtin; refine Kd.R_append KMInt (w0 := w) w.heap.size rfl (.tmp 7) (.tmp 8) 22 3 (.int .i64 0) 8 rfl Tryd.underlying22 infoInt rfl (by decide) (by omega) v1 ([] ++ l0.map some) none [.int .i64 (-7171)] (fun _ => True) (fun _ => False) rfl rfl rfl (fun _ hk => hk.elim) (fun _ _ => trivial) HO.out HB1.out (Below.size HB1.out) (by have := HL.out; simp at this ⊢; omega) ?_; intro v2 w2 ho hb _ _; have HO2 := Aside0.mk ho; have HB2 := Aside0.mk hb; clear ho hb; (obtain ⟨A, c, rfl⟩ := Kd.R_slice HO2.out; have hc : l0.length + 1 ≤ c := (by have := (Kd.R_reads' HO2.out).2.1; simpa using this); have hc2 : l0.length ≤ c := (by omega))))
  go_ret
  exact ⟨A, c, rfl, hc, by simpa using HO2.out, HB2.out⟩
theorem keptInts_calls (A B : Option Addr) (c d : Nat) (l : List Int) (w : World) (hv : KMInt.C w A (l.length + 1) (l.map some ++ [none])) (hc : l.length + 1 ≤ c) (hq : Kd.C (Kd.int .i64) w B l.length l) : Quiet 25 #[.slice A l.length c, .slice B l.length d] w (.bool true) := by
  unfold Quiet
  have hlen := hv.2.1
  obtain ⟨ad, rfl, hm⟩ := lent_mark (a := (Kd.int .i64)) hv
  have hcell : w.cell? (ad.add l.length) = some (.int .i64 (-7171)) := by simpa [show Kd.sz (Kd.int .i64) = 1 from rfl] using hm 0 _ rfl
  have HR := Lib.hid (lent_C (a := (Kd.int .i64)) hv)
  have HQ := Lib.hid hq
  clear hv hq hm
  go_enter Tryd.func25, Tryd.ntmps25
  go_wp2_with (go_at_call 18; refine (ints_calls (some ad) B c d l l _ HR.out HQ.out).mono ?_; rintro e w' ⟨rfl, n, rfl⟩; rw [decide_eq_true (show l = l from rfl)])
  go_ret
  exact ⟨rfl, _, rfl⟩
end Go.Proofs.YtcikcnkhcfhomaaDoor.Hand
/- Arguments of whatever kind, opened: the reading of memory gives the plain datum that it spells. -/
namespace Go.Proofs.YtcikcnkhcfhomaaDoor.Hand
open Go.ChangeShapes Go.WideShapes Go.ChangeAt
open Go.RowKit Go.Proofs.YtcikcnkhcfhomaaDoorW.PrintWords Go.Proofs.YtcikcnkhcfhomaaDoorW.PrintMore Go.Proofs.YtcikcnkhcfhomaaDoor.Math

/-- Whatever reads by this type spells a datum of this kind. -/
def Opens {α : Type} (t : TypeId) (d : Kd α) (good : α → Prop) : Prop :=
  ∀ (H : Type) (enc : TypeId × Value → H) (W : World) (base : Nat) (spare : Nat → Bool) (held : Bool) (fuel : Nat) (cs : List Value) (x : DataW H × List MemPlace), DataW.trod enc Tryd.prog W base spare held fuel t cs = some x →
    (∀ n ∈ x.1.weights Tryd.prog t, n ≤ reachBytes) → ∃ a, d.K W a cs ∧ good a
theorem Opens.int {t : TypeId} {k : IntKind} (ht : Tryd.prog.underlying t = some (.int k)) : Opens t (Kd.int k) (fun a => (Lit.int k a).wf = true) := by
  intro H enc W base spare held fuel cs x h _
  obtain ⟨n, rfl, _, hw⟩ := DataW.trod_int ht h
  exact ⟨n, rfl, hw⟩
theorem Opens.string {t : TypeId} (ht : Tryd.prog.underlying t = some .string) : Opens t Kd.string (fun s => s.size ≤ 140737488351232) := by
  intro H enc W base spare held fuel cs x h hw
  obtain ⟨s, rfl, rfl, _⟩ := DataW.trod_string ht h
  refine ⟨s, rfl, ?_⟩
  have := hw s.data.toList.length (by simp [DataW.weights])
  simpa [reachBytes] using this
theorem weightsAll_mem {H : Type} {P : Program} {e : TypeId} {d : DataW H} {n : Nat} : ∀ {l : List (DataW H)}, d ∈ l → n ∈ d.weights P e → n ∈ DataW.weightsAll P e l
  | [], h, _ => by cases h
  | a :: r, h, hn => by
    simp only [DataW.weightsAll, List.mem_append]
    rcases List.mem_cons.1 h with rfl | h
    · exact .inl hn
    · exact .inr (weightsAll_mem h hn)
theorem Opens.slice {α : Type} {t e : TypeId} {B : Nat} {d : Kd α} {good : α → Prop} (ht : Tryd.prog.underlying t = some (.slice e)) (he : Opens e d good) (hc : Tryd.prog.cellsOf e = d.sz) (hB : Tryd.prog.bytesOf e = B) :
    Opens t (Kd.slice e d) (fun l => l.length * B ≤ 140737488351232 ∧ ∀ x ∈ l, good x) := by
  intro H enc W base spare held fuel cs x h hw
  rcases Deep.open_slice ht h with ⟨rfl, rfl⟩ | ⟨a, len, cap, m, n, D, Pl, rfl, hb, hl, hm, hmm, rfl, hx⟩
  · exact ⟨[], ⟨none, 0, rfl, Nat.le_refl _, Kd.C_nil d W⟩, by simp, fun x hx => absurd hx (List.not_mem_nil)⟩
  · have hlm : len ≤ m := by rw [hmm]; split <;> omega
    simp only [DataW.weights, ht] at hw
    have hw1 := hw _ (List.mem_cons_self ..)
    simp only [List.length_map, List.length_range] at hw1
    have hw2 : ∀ i, i < len → ∀ k ∈ (D i).weights Tryd.prog e, k ≤ reachBytes := fun i hi k hk =>
      hw k (List.mem_cons_of_mem _ (List.mem_append_left _ (weightsAll_mem (List.mem_map.2 ⟨i, List.mem_range.2 hi, rfl⟩) hk)))
    obtain ⟨l, hll, hp⟩ := list_of (n := len) (p := fun i p => good p ∧ ∃ cs', d.K W p cs' ∧ ∀ j u, cs'[j]? = some u → W.cell? (a.add (i * d.sz + j)) = some u) (fun i hi => by
      obtain ⟨cs', h1, h2⟩ := hx i (by omega)
      obtain ⟨p, hk, hg⟩ := he H enc W base spare held n cs' _ h2 (hw2 i hi)
      obtain ⟨_, hlen, hcell⟩ := World.cells?_some h1
      refine ⟨p, hg, cs', hk, fun j u hu => ?_⟩
      have hj : j < Tryd.prog.cellsOf e := by rw [← hlen]; exact (List.getElem?_eq_some_iff.1 hu).1
      have := hcell j hj
      rw [Deep.add_add, hu, hc] at this
      exact this)
    subst hll
    refine ⟨l, ⟨some a, cap, rfl, hl, rfl, ?_, fun _ => ⟨a, rfl, fun j p hj => ?_⟩⟩, ?_, fun x hx => ?_⟩
    · have : maxLen = 9223372036854775807 := by decide
      omega
    · obtain ⟨_, cs', hk, hcell⟩ := hp j p hj
      exact ⟨cs', d.K_len hk, hk, hcell⟩
    · rw [hB] at hw1
      have h3 : l.length * B ≤ (l.length + (m - l.length)) * B := Nat.mul_le_mul_right _ (by omega)
      have h4 : (reachBytes : Nat) = 140737488351232 := by decide
      omega
    · obtain ⟨i, hi⟩ := List.getElem?_of_mem hx
      exact (hp i x hi).1
theorem Opens.pair {α β : Type} {t : TypeId} {f0 f1 : Field} {a : Kd α} {b : Kd β} {ga : α → Prop} {gb : β → Prop} (ht : Tryd.prog.underlying t = some (.struct #[f0, f1])) (o0 : f0.offset = 0) (o1 : f1.offset = a.sz) (c0 : Tryd.prog.cellsOf f0.type = a.sz) (c1 : Tryd.prog.cellsOf f1.type = b.sz) (ct : Tryd.prog.cellsOf t = a.sz + b.sz)
    (h0 : Opens f0.type a ga) (h1 : Opens f1.type b gb) : Opens t (Kd.pair a b) (fun x => ga x.1 ∧ gb x.2) := by
  intro H enc W base spare held fuel cs x h hw
  obtain ⟨y0, y1, n, rfl, hl, k0, k1⟩ := trod_struct2 ht h
  simp only [DataW.weights, ht, List.map_cons, List.map_nil, DataW.weightsEach, List.append_nil] at hw
  rw [o0, c0, List.drop_zero] at k0
  rw [o1, c1] at k1
  obtain ⟨x0, q0, g0⟩ := h0 H enc W base spare held n _ _ k0 (fun n hn => hw n (List.mem_append_left _ hn))
  obtain ⟨x1, q1, g1⟩ := h1 H enc W base spare held n _ _ k1 (fun n hn => hw n (List.mem_append_right _ hn))
  refine ⟨(x0, x1), ⟨cs.take a.sz, (cs.drop a.sz).take b.sz, ?_, q0, q1⟩, g0, g1⟩
  rw [List.take_of_length_le (show (cs.drop a.sz).length ≤ b.sz by rw [List.length_drop, hl, ct]; omega), List.take_append_drop]
section
set_option maxRecDepth 20000
variable {H : Type} {enc : TypeId × Value → H} {W : World} {base : Nat} {r : Reach} {b0 : Nat} {spare : Nat → Bool} {held : Bool} {v : Value} {d : DataW H} {ps : List MemPlace} {ts : List TypeId} {ds : List (DataW H)} {j : Nat}

theorem openSlice {α : Type} {t e : TypeId} {B : Nat} {k : Kd α} {good : α → Prop} (hu : Tryd.prog.underlying t = some (.slice e)) (he : Opens e k good) (hc : Tryd.prog.cellsOf e = k.sz) (hB : Tryd.prog.bytesOf e = B)
    (hsz : (DataW.weightsEach Tryd.prog ts ds).all (· ≤ reachBytes) = true) (ht : ts[j]? = some t) (hd : ds[j]? = some d) (hv : Value.okWide Tryd.prog W r b0 t v) (h : DataW.Trod enc Tryd.prog W base spare held t v d ps) :
    ∃ (A : Option Addr) (c : Nat) (l : List α), v = .slice A l.length c ∧ k.C W A l.length l ∧ l.length * B ≤ 140737488351232 ∧ l.length ≤ c ∧ ∀ x ∈ l, good x := by
  obtain ⟨a, len, cap, rfl⟩ := okWide_slice hu hv
  obtain ⟨fuel, hf⟩ := h
  obtain ⟨l, ⟨A, c, hcs, hlc, hC⟩, hb, hg⟩ := (Opens.slice hu he hc hB) H enc W base spare held fuel _ _ hf (fun n hn => by
    have := List.all_eq_true.1 hsz n (DataW.weights_mem_each ht hd n hn)
    simpa using this)
  simp [Value.cells] at hcs
  obtain ⟨rfl, rfl, rfl⟩ := hcs
  exact ⟨_, _, l, rfl, hC, hb, hlc, hg⟩
theorem opens_i64 : Opens 3 (Kd.int .i64) (fun a => (Lit.int .i64 a).wf = true) := Opens.int Tryd.underlying3
theorem opens_ints : Opens 22 (Kd.slice 3 (Kd.int .i64)) (fun l => l.length * 8 ≤ 140737488351232 ∧ ∀ x ∈ l, (Lit.int .i64 x).wf = true) := Opens.slice Tryd.underlying22 opens_i64 (by kernel_rfl) (by kernel_rfl)
theorem openInts (hsz : (DataW.weightsEach Tryd.prog ts ds).all (· ≤ reachBytes) = true) (ht : ts[j]? = some 22) (hd : ds[j]? = some d) (hv : Value.okWide Tryd.prog W r b0 22 v) (h : DataW.Trod enc Tryd.prog W base spare held 22 v d ps) :
    ∃ (A : Option Addr) (c : Nat) (l : List Int), v = .slice A l.length c ∧ Kd.C (Kd.int .i64) W A l.length l ∧ l.length * 8 ≤ 140737488351232 ∧ l.length ≤ c ∧ ∀ x ∈ l, (Lit.int .i64 x).wf = true :=
  openSlice Tryd.underlying22 opens_i64 (by kernel_rfl) (by kernel_rfl) hsz ht hd hv h
theorem opens_strings : Opens 68 (Kd.slice 9 Kd.string) (fun l => l.length * 16 ≤ 140737488351232 ∧ ∀ x ∈ l, x.size ≤ 140737488351232) := Opens.slice Tryd.underlying68 (Opens.string Tryd.underlying9) (by kernel_rfl) (by kernel_rfl)
theorem openStrings (hsz : (DataW.weightsEach Tryd.prog ts ds).all (· ≤ reachBytes) = true) (ht : ts[j]? = some 68) (hd : ds[j]? = some d) (hv : Value.okWide Tryd.prog W r b0 68 v) (h : DataW.Trod enc Tryd.prog W base spare held 68 v d ps) :
    ∃ (A : Option Addr) (c : Nat) (l : List ByteArray), v = .slice A l.length c ∧ Kd.C Kd.string W A l.length l ∧ l.length * 16 ≤ 140737488351232 ∧ l.length ≤ c ∧ ∀ x ∈ l, x.size ≤ 140737488351232 :=
  openSlice Tryd.underlying68 (Opens.string Tryd.underlying9) (by kernel_rfl) (by kernel_rfl) hsz ht hd hv h
end
end Go.Proofs.YtcikcnkhcfhomaaDoor.Hand
