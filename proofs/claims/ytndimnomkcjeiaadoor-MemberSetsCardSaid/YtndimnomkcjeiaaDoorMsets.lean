/- The walk of MemberSets: it answers true and leaves the memory that it was given as it was, where the errors' variables stand. -/
import Derived.Test.YtndimnomkcjeiaaDoorRsets
import Derived.Test.YtndimnomkcjeiaaDoorKit
import Derived.Test.YtndimnomkcjeiaaDoorOpens
import Derived.Test.YtndimnomkcjeiaaDoorLaid
namespace Go.Proofs.YtndimnomkcjeiaaDoor.Hand
open Go.RowKit Go.Proofs.YtndimnomkcjeiaaDoorW.PrintWords Go.Proofs.YtndimnomkcjeiaaDoorW.PrintMore Go.Proofs.YtndimnomkcjeiaaDoor.Math

theorem Row.C_sets {w : World} {g m : Nat} {f : Nat → Nat} (h : Row w g m (fun d => .int .u64 ((f d : Nat) : Int))) (hm : m ≤ 9223372036854775807) : KSet.C w (some ⟨g, 0, none⟩) m ((List.range m).map f) := by
  refine ⟨by simp, hm, fun _ => ⟨⟨g, 0, none⟩, rfl, fun j p hj => ?_⟩⟩
  rw [List.getElem?_map, Option.map_eq_some_iff] at hj
  obtain ⟨x, hx, rfl⟩ := hj
  obtain ⟨hx1, hx2⟩ := List.getElem?_eq_some_iff.1 hx
  rw [List.getElem_range] at hx2
  subst hx2
  rw [List.length_range] at hx1
  refine ⟨[.int .u64 ((f j : Nat) : Int)], rfl, rfl, fun i u hu => ?_⟩
  have h0 : i = 0 := by
    have := (List.getElem?_eq_some_iff.1 hu).1
    simp at this
    exact this
  subst h0
  simp at hu
  subst hu
  have := h.cell j hx1
  have e : ((⟨g, 0, none⟩ : Addr).add j) = ⟨g, j, none⟩ := by unfold Addr.add; by_cases h : j = 0 <;> simp [h]
  simpa [show KSet.sz = 1 from rfl, e] using this
theorem ksets_same {w : World} {A B : Option Addr} {c d m : Nat} {l : List Nat} (h1 : KSet.C w A m l) (h2 : KSet.C w B m l) : Quiet 17 #[.slice A m c, .slice B m d] w (.bool true) := by
  obtain rfl := h1.1
  have := ksets_calls A B c d l l w h1 h2
  rwa [decide_eq_true (show l = l from rfl)] at this
theorem rows_at {w : World} {A : Option Addr} {n : Nat} {xss : List (List Nat)} (h : KRows.C w A n xss) (i : Nat) (hi : i < n) :
    ∃ ad B c, A = some ad ∧ w.cell? (ad.add i) = some (.slice B (xss.getD i []).length c) ∧ KSet.C w B (xss.getD i []).length (xss.getD i []) := by
  obtain ⟨ad, cs, e1, e2, e3, e4⟩ := Kd.C_get h [] (i : Int) (by omega) (by omega)
  rw [Int.toNat_natCast] at e3 e4
  obtain ⟨B, c, rfl, _, e5⟩ := e3
  refine ⟨ad, B, c, e1, ?_, e5⟩
  have := e4 0 _ rfl
  simpa [show KRows.sz = 1 from rfl] using this
set_option maxHeartbeats 1600000 in
set_option maxRecDepth 20000 in
theorem memberSets_walk {w : World} (g : Gr) (v : Value) (hg : GramAt w v g ∧ GramB g) (At : Option Addr) (ct : Nat) (tk : List Int)
    (ht : Kd.C (Kd.int .i64) w At tk.length tk ∧ tk.length * 8 ≤ 140737488351232 ∧ tk.length ≤ ct ∧ ∀ x ∈ tk, (Lit.int .i64 x).wf = true) (hE : ∃ A, Errs w A) :
    Calls Tryd.prog 3 #[v, .slice At tk.length ct] w fun e w' => e = .returned (.bool true) ∧ Below w.heap.size w w' := by
  obtain ⟨hv, hB⟩ := hg
  obtain ⟨hr, hl8, hlc, -⟩ := ht
  obtain ⟨A, hE⟩ := hE
  have HV := Lib.hid hv
  obtain ⟨AT, cT, AN, cN, AR, cR, rfl, q1, q2, q3, q4, q5, q6⟩ := hv
  clear q4 q5 q6
  obtain ⟨w1, hw1⟩ : ∃ w1, w.alloc (.cells #[.slice AT g.terms.length cT, .slice AN g.nonterms.length cN, .int .i64 g.ax, .slice AR g.rules.length cR] 25) = w1 := ⟨_, rfl⟩
  have hb1 : Below w.heap.size w w1 := by rw [← hw1]; exact below_alloc (Below.refl _ _) _
  have hk1 : w1.heap[w.heap.size]? = some (.cells #[.slice AT g.terms.length cT, .slice AN g.nonterms.length cN, .int .i64 g.ax, .slice AR g.rules.length cR] 25 (0, 0)) := by rw [← hw1]; exact heap_alloc_new w _
  obtain ⟨c0, c1, c2, c3⟩ := blk_cells2 hk1
  have HB1 := Lib.hid hb1
  have HK1 := Lib.hid hk1
  have HG1 := Lib.hid (HV.out.below hb1)
  have HT1 := Lib.hid (Kd.C_below hr hb1)
  have HE1 := Lib.hid (hE.below hb1)
  have HLG := Lib.hid (lentGrammar_calls _ g w1 HG1.out (by have := hB.terms; omega) (by have := hB.nonterms; omega) (by have := hB.rules; omega) (fun r hr => by have := hB.right r hr; omega))
  have HLI := Lib.hid (fun (W : World) (hW : Below w1.heap.size w1 W) => lentInts_calls At ct tk W (Kd.C_below HT1.out hW) (by omega))
  clear hb1 hk1 hr hE hB hl8
  go_enter Tryd.func3, Tryd.ntmps3
  go_upto_region 2 with (first
    | (go_at_call 10; refine HLG.out.mono ?_; rintro e w2 ⟨u, rfl, hu, hb2⟩; have HU := Aside0.mk hu; have HB2 := Lib.hid hb2; obtain ⟨BT, dT, BN, dN, BR, dR, rfl, -⟩ := hu; clear hb2 c0 c1 c2 c3)
    | (go_at_call 11; refine (HLI.out w2 HB2.out).mono ?_; rintro e w3 ⟨Al, cl, rfl, hcl, hrl, hb3⟩; have HRl := Lib.hid (Kd.R_reads' hrl); have HB3 := Lib.hid hb3; clear hrl hb3))
  obtain ⟨w4, hw4⟩ : ∃ w4, w3.alloc (.cells #[.slice BT g.terms.length dT, .slice BN g.nonterms.length dN, .int .i64 g.ax, .slice BR g.rules.length dR] 25) = w4 := ⟨_, rfl⟩
  rw [hw4]
  have hb4 : Below w3.heap.size w3 w4 := by rw [← hw4]; exact below_alloc (Below.refl _ _) _
  have hk4 : w4.heap[w3.heap.size]? = some (.cells #[.slice BT g.terms.length dT, .slice BN g.nonterms.length dN, .int .i64 g.ax, .slice BR g.rules.length dR] 25 (0, 0)) := by rw [← hw4]; exact heap_alloc_new w3 _
  obtain ⟨d0, d1, d2, d3⟩ := blk_cells2 hk4
  have h14 : Below w1.heap.size w1 w4 := below_next (below_next HB2.out HB3.out) hb4
  have HE4 := Lib.hid (HE1.out.below h14)
  have HG4 := Lib.hid (HG1.out.below h14)
  have HT4 := Lib.hid (Kd.C_below HT1.out h14)
  have HU4 := Lib.hid (HU.out.below (below_next HB3.out hb4))
  have HL4 : Hid (KMInt.C w4 Al (tk.length + 1) (tk.map some ++ [none])) := Lib.hid (by have := Kd.C_below HRl.out.2.2 hb4; rwa [← HRl.out.1] at this)
  have HKg := Lib.hid (gblk_keep' HK1.out h14)
  have HKu := Lib.hid hk4
  have HB4 := Lib.hid (below_next HB1.out h14)
  have HM := Lib.hid (msets_calls _ g Al cl tk w4 A HE4.out HU4.out.plain (by omega) (lent_C (a := Kd.int .i64) HL4.out))
  have HRS := Lib.hid (fun (W : World) (hW : Below w4.heap.size w4 W) => rsets_calls _ g At ct tk W (HG4.out.below hW) hlc (Kd.C_below HT4.out hW))
  clear hw4 hb4 hk4 h14 hw1 HLG HLI
  by_cases hok : (mayN g tk).1 = 0
  · obtain ⟨hn, hN⟩ := may_lim hok
    have HM2 : Hid (Calls Tryd.prog 12 _ w4 fun e w' => ∃ O Bs Tn, e = .returned (.tuple #[.slice (some ⟨O, 0, none⟩) (tk.length + 1) (tk.length + 1), .nilIface]) ∧ SetsAt w4 g tk O Bs Tn w') := Lib.hid (HM.out.mono (by
      rintro e w' (⟨u, h1, h2, _⟩ | ⟨O, Bs, Tn, h1, _, h3⟩)
      · exact absurd hok h2
      · exact ⟨O, Bs, Tn, h1, h3⟩))
    have HR2 := Lib.hid (fun (W : World) (hW : Below w4.heap.size w4 W) => (HRS.out W hW).mono (R' := fun e w' => ∃ v U, e = .returned (.tuple #[v, .int .i64 0]) ∧ KRows.R 40 w' W.heap.size (fun _ => True) v ((List.range (tk.length + 1)).map (rowU U tk.length)) ∧ Below W.heap.size W w' ∧ (∀ i j, U i j < 2 ^ g.nonterms.length) ∧ Exact g.rules tk tk.length g.nonterms.length (tabOf U)) (by
      rintro e w' (⟨h1, h2, _⟩ | ⟨v, U, h1, _, h3⟩)
      · exact absurd hok h2
      · exact ⟨v, U, h1, h3⟩))
    have HOK := Lib.hid hok
    clear hok HM HRS
    obtain ⟨n1, hn1⟩ : ∃ n1 : Nat, n1 = tk.length + 1 := ⟨_, rfl⟩
    rw [← hn1] at HM2 HR2
    have HN1 := Lib.hid hn1
    have hn41 : n1 ≤ 41 := by omega
    clear hn1
    go_upto_region 5 with (first
      | (go_at_call 12; refine HM2.out.mono ?_; rintro e w5 ⟨O, Bs, Tn, rfl, hs5⟩; have HS5 := Lib.hid hs5; obtain ⟨e0, e1, e2, e3⟩ := blk_cells2 (gblk_keep' HKg.out hs5.bel); clear hs5 d0 d1 d2 d3)
      | (go_at_call 13; refine (HR2.out w5 HS5.out.bel).mono ?_; rintro e w6 ⟨vb, U, rfl, hrb, hb6, hlU, hxU⟩; obtain ⟨A6, c6, e6⟩ := Kd.R_slice hrb; rw [List.length_map, List.length_range] at e6; subst e6; have HRB := Lib.hid (Kd.R_reads' hrb).2.2; have P6 := Lib.hid hb6; have HB6 := Lib.hid (below_next HS5.out.bel hb6); have HLU := Lib.hid hlU; have HXU := Lib.hid hxU; obtain ⟨x0, x1, x2, x3⟩ := blk_cells2 (gblk_keep' HKu.out HB6.out); obtain ⟨y0, y1, y2, y3⟩ := blk_cells2 (gblk_keep' HKg.out HB6.out); clear hrb hb6 hlU hxU e0 e1 e2 e3)
      | (go_at_call 14; refine (kind_calls (HE4.out.below HB6.out) (.none : ErrV w6 A .nilIface 0 (-1))).mono ?_; rintro e w7 ⟨rfl, hb7⟩; have P7 := Lib.hid (below_next P6.out hb7); have Q7 := Lib.hid hb7; have HB7 := Lib.hid (below_next HB6.out hb7); clear hb7 x0 x1 x2 x3 y0 y1 y2 y3; obtain ⟨x0, x1, x2, x3⟩ := blk_cells2 (gblk_keep' HKu.out HB7.out); obtain ⟨y0, y1, y2, y3⟩ := blk_cells2 (gblk_keep' HKg.out HB7.out))
      | (go_at_call 15; refine (keptGrammar_calls _ _ g w7 (HU4.out.below HB7.out) (HG4.out.below HB7.out)).mono ?_; rintro e w8 ⟨rfl, hb8⟩; have P8 := Lib.hid (below_next P7.out hb8); have Q8 := Lib.hid (below_next Q7.out hb8); have HB8 := Lib.hid (below_next HB7.out hb8); clear hb8 x0 x1 x2 x3 y0 y1 y2 y3)
      | (go_at_call 16; refine (keptInts_calls Al At cl ct tk w8 (Kd.C_below HL4.out HB8.out) hcl (Kd.C_below HT4.out HB8.out)).mono ?_; rintro e w9 ⟨rfl, n9, rfl⟩))
    clear HU HU4 HE4 HE1 hcl
    go_loopw [11] (fun x wr => ∃ i : Nat, i ≤ n1 ∧ x = .int .i64 i ∧ Hid (∃ n, wr = w8.drewN n)) (fun x _ => n1 - (intOf x).toNat)
    case atStart => exact ⟨0, by omega, rfl, Lib.hid ⟨n9, rfl⟩⟩
    case round =>
      obtain ⟨i, hi, rfl, HW⟩ := hrel
      have HA1 := Lib.hid (show Row wr O (tk.length + 1) _ by obtain ⟨n, e⟩ := HW.out; rw [e]; exact (HS5.out.out.below P8.out).drewN n)
      have HR1 := Lib.hid (show KRows.C wr A6 _ _ by obtain ⟨n, e⟩ := HW.out; rw [e]; exact Kd.C_drewN (Kd.C_below HRB.out Q8.out) n)
      by_cases hlt : i < n1
      · have hit : i ≤ tk.length := by have := HN1.out; omega
        obtain ⟨m, hm⟩ : ∃ m : Nat, m = tk.length - i + 1 := ⟨_, rfl⟩
        have HIn := Lib.hid (show Row wr (Bs i) m _ by rw [hm]; obtain ⟨n, e⟩ := HW.out; rw [e]; exact ((HS5.out.inn i hit).below P8.out).drewN n)
        have pa := HA1.out.cell i (by omega)
        rw [← hm] at pa
        obtain ⟨ad, B, c, rfl, pb, hb⟩ := rows_at HR1.out i (by rw [List.length_map, List.length_range]; exact hlt)
        have he : ((List.range n1).map (rowU U tk.length)).getD i [] = (List.range m).map (fun d => Tn i (i + d)) := by
          have h1 : ((List.range n1).map (rowU U tk.length)).getD i [] = rowU U tk.length i := by simp [List.getD, hlt]
          rw [h1, rowU, ← hm]
          apply List.map_congr_left
          intro d hd
          have hd2 : d < m := List.mem_range.1 hd
          exact exact_eq hN HXU.out HS5.out.is HLU.out HS5.out.lim (by omega) (by omega)
        rw [he] at pb hb
        rw [List.length_map, List.length_range] at pb hb
        have HC1 := Lib.hid (HIn.out.C_sets (by omega))
        have HC2 := Lib.hid hb
        have hi0 : (0 : Int) ≤ (i : Int) := by omega
        have hi1 : (i : Int) < (n1 : Int) := by omega
        clear hb he hm
        go_wp2
        go_quiet ((go_at_call 17; exact Calls.quiet_of (ksets_same (Kd.C_drewN HC1.out _) (Kd.C_drewN HC2.out _))))
        go_wp2
        go_roundw
        case rel => exact ⟨i + 1, by omega, by go_num, Lib.hid (by obtain ⟨n, e⟩ := HW.out; exact ⟨_, by rw [e, World.drewN_drewN]⟩)⟩
        case measure => simp [intOf]; omega
      · go_wp2
        go_ret
        obtain ⟨n, e⟩ := HW.out
        exact ⟨rfl, by rw [e]; exact pw_below_drewN (below_next HB4.out HB8.out) _⟩
  · have HM2 : Hid (Calls Tryd.prog 12 _ w4 fun e w' => ∃ u, e = .returned (.tuple #[.slice none 0 0, u]) ∧ ErrV w' A u (mayN g tk).1 (mayN g tk).2 ∧ Below w4.heap.size w4 w') := Lib.hid (HM.out.mono (by
      rintro e w' (⟨u, h1, h2, h3, h4⟩ | ⟨O, Bs, Tn, h1, h2, _⟩)
      · exact ⟨u, h1, h3, h4⟩
      · exact absurd h2 hok))
    have HR2 := Lib.hid (fun (W : World) (hW : Below w4.heap.size w4 W) => (HRS.out W hW).mono (R' := fun e w' => e = .returned (.tuple #[.slice none 0 0, .int .i64 ((mayN g tk).1 : Nat)]) ∧ Below W.heap.size W w') (by
      rintro e w' (⟨h1, _, h3⟩ | ⟨v, U, h1, h2, _⟩)
      · exact ⟨h1, h3⟩
      · exact absurd h2 hok))
    obtain ⟨k, hk⟩ : ∃ k, (mayN g tk).1 = k := ⟨_, rfl⟩
    rw [hk] at HM2 HR2
    have f3 : ((k : Int) != (k : Int)) = false := by simp
    clear hok HM HRS hk
    go_wp2_with (first
      | (go_at_call 12; refine HM2.out.mono ?_; rintro e w5 ⟨u5, rfl, hu5, hb5⟩; have HU5 := Lib.hid hu5; have HB5 := Lib.hid hb5; obtain ⟨e0, e1, e2, e3⟩ := blk_cells2 (gblk_keep' HKg.out hb5); clear hu5 hb5 d0 d1 d2 d3)
      | (go_at_call 13; refine (HR2.out w5 HB5.out).mono ?_; rintro e w6 ⟨rfl, hb6⟩; have P6 := Lib.hid hb6; have HB6 := Lib.hid (below_next HB5.out hb6); obtain ⟨x0, x1, x2, x3⟩ := blk_cells2 (gblk_keep' HKu.out HB6.out); obtain ⟨y0, y1, y2, y3⟩ := blk_cells2 (gblk_keep' HKg.out HB6.out); clear hb6 e0 e1 e2 e3)
      | (go_at_call 14; refine (kind_calls (HE4.out.below HB6.out) (HU5.out.below P6.out)).mono ?_; rintro e w7 ⟨rfl, hb7⟩; have HB7 := Lib.hid (below_next HB6.out hb7); clear hb7 x0 x1 x2 x3 y0 y1 y2 y3; obtain ⟨x0, x1, x2, x3⟩ := blk_cells2 (gblk_keep' HKu.out HB7.out); obtain ⟨y0, y1, y2, y3⟩ := blk_cells2 (gblk_keep' HKg.out HB7.out))
      | (go_at_call 15; refine (keptGrammar_calls _ _ g w7 (HU4.out.below HB7.out) (HG4.out.below HB7.out)).mono ?_; rintro e w8 ⟨rfl, hb8⟩; have HB8 := Lib.hid (below_next HB7.out hb8); clear hb8 x0 x1 x2 x3 y0 y1 y2 y3)
      | (go_at_call 16; refine (keptInts_calls Al At cl ct tk w8 (Kd.C_below HL4.out HB8.out) hcl (Kd.C_below HT4.out HB8.out)).mono ?_; rintro e w9 ⟨rfl, n9, rfl⟩))
    go_loopw [11] (fun x wr => x = .int .i64 0 ∧ wr = w8.drewN n9) (fun x _ => 1)
    case atStart => exact ⟨rfl, rfl⟩
    case round =>
      obtain ⟨rfl, rfl⟩ := hrel
      go_wp2
      go_ret
      exact ⟨rfl, pw_below_drewN (below_next HB4.out HB8.out) _⟩
end Go.Proofs.YtndimnomkcjeiaaDoor.Hand
