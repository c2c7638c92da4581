/- Contract of dovetailref24.Sets: the chart's rows as sets. -/
import Derived.Test.YtndimnomkcjeiaaDoorRfrom
import Derived.Test.YtndimnomkcjeiaaDoorSB
namespace Go.Proofs.YtndimnomkcjeiaaDoor.Hand
open Go.RowKit Go.Proofs.YtndimnomkcjeiaaDoorW.PrintWords Go.Proofs.YtndimnomkcjeiaaDoorW.PrintMore Go.Proofs.YtndimnomkcjeiaaDoor.Math

def rowU (U : Nat → Nat → Nat) (n i : Nat) : List Nat := (List.range (n - i + 1)).map (fun d => U i (i + d))
/-- Tables of sets that are both right are the same. -/
theorem exact_eq {R : List (Int × List Int)} {tk : List Int} {N : Nat} {U V : Nat → Nat → Nat} (hN : N ≤ 60) (h1 : Exact R tk tk.length N (tabOf U)) (h2 : Exact R tk tk.length N (tabOf V)) (l1 : ∀ i j, U i j < 2 ^ N) (l2 : ∀ i j, V i j < 2 ^ N) {i j : Nat} (hij : i ≤ j) (hj : j ≤ tk.length) : U i j = V i j := by
  apply Nat.eq_of_testBit_eq
  intro k
  by_cases hk : k < N
  · have hh : tabOf U i j k = tabOf V i j k := by
      rw [Bool.eq_iff_iff, h1 i j k hij hj hk, h2 i j k hij hj hk]
    unfold tabOf hasN at hh
    rw [(inR_iff _).2 (by omega)] at hh
    simpa using hh
  · have hp : 2 ^ N ≤ 2 ^ k := Nat.pow_le_pow_right (by decide) (by omega)
    rw [Nat.testBit_lt_two_pow (Nat.lt_of_lt_of_le (l1 i j) hp), Nat.testBit_lt_two_pow (Nat.lt_of_lt_of_le (l2 i j) hp)]
theorem infoSS : (Tryd.prog.info? 40).map (fun i => (i.zero, i.size, i.bytes)) = some (some (.slice none 0 0), 1, 24) := by kernel_rfl
theorem infoSet' : (Tryd.prog.info? 57).map (fun i => (i.zero, i.size, i.bytes)) = some (some (.int .u64 0), 1, 8) := by kernel_rfl
def KRows : Kd (List Nat) := Kd.slice 57 KSet
theorem KSet_sz : 0 < KSet.sz := Nat.zero_lt_one
theorem KRows_sz : 0 < KRows.sz := Nat.zero_lt_one
def RSetsRes (w0 : World) (g : Gr) (tk : List Int) (e : Ending) (w' : World) : Prop :=
  (e = .returned (.tuple #[.slice none 0 0, .int .i64 ((mayN g tk).1 : Nat)]) ∧ ¬ (mayN g tk).1 = 0 ∧ Below w0.heap.size w0 w') ∨
  (∃ v U, e = .returned (.tuple #[v, .int .i64 0]) ∧ (mayN g tk).1 = 0 ∧ KRows.R 40 w' w0.heap.size (fun _ => True) v ((List.range (tk.length + 1)).map (rowU U tk.length)) ∧ Below w0.heap.size w0 w' ∧ (∀ i j, U i j < 2 ^ g.nonterms.length) ∧ Exact g.rules tk tk.length g.nonterms.length (tabOf U))
set_option maxHeartbeats 1600000 in
set_option maxRecDepth 100000 in
theorem rsets_calls (v : Value) (g : Gr) (At : Option Addr) (ct : Nat) (tk : List Int) (w : World) (hv : GramAt w v g) (hlc : tk.length ≤ ct) (hr : Kd.C (Kd.int .i64) w At tk.length tk) :
    Calls Tryd.prog 13 #[v, .slice At tk.length ct] w fun e w' => RSetsRes w g tk e w' := by
  have HV := Lib.hid hv
  obtain ⟨AT, cT, AN, cN, AR, cR, rfl, q1, q2, q3, q4, q5, q6⟩ := hv
  have hlen := hr.2.1
  have l2 := q5.2.1
  obtain ⟨w1, hw1⟩ : ∃ w1, w.alloc (.cells #[.slice AT g.terms.length cT, .slice AN g.nonterms.length cN, .int .i64 g.ax, .slice AR g.rules.length cR] 25) = w1 := ⟨_, rfl⟩
  have hb1 : Below w.heap.size w w1 := by rw [← hw1]; exact below_alloc (Below.refl _ _) _
  have hk1 : w1.heap[w.heap.size]? = some (.cells #[.slice AT g.terms.length cT, .slice AN g.nonterms.length cN, .int .i64 g.ax, .slice AR g.rules.length cR] 25 (0, 0)) := by rw [← hw1]; exact heap_alloc_new w _
  obtain ⟨c0, c1, c2, c3⟩ := blk_cells2 hk1
  have HB1 := Lib.hid hb1
  have HK1 := Lib.hid hk1
  have HM := Lib.hid (rmay_calls _ g At ct tk w1 (HV.out.below hb1) hlc (Kd.C_below hr hb1))
  have HG := Lib.hid (HV.out.below hb1)
  have HT := Lib.hid (Kd.C_below hr hb1)
  clear hb1 hk1 q4 q5 q6 hr
  by_cases hok : (mayN g tk).1 = 0
  · obtain ⟨hn, hN⟩ := may_lim hok
    have HNew := Lib.hid (fun (W : World) (hW : Below w1.heap.size w1 W) => rnew_calls _ g At ct tk W (HG.out.below hW) hlc (Kd.C_below HT.out hW) hok)
    have HOK := Lib.hid hok
    rw [hok] at HM
    clear hok
    go_enter Tryd.func13, Tryd.ntmps13
    go_wp2_with (first
      | (go_at_call 33; refine HM.out.mono ?_; rintro e w2 ⟨rfl, hb2⟩; have HB2 := Lib.hid hb2; obtain ⟨d0, d1, d2, d3⟩ := blk_cells2 (gblk_keep' HK1.out hb2); clear hb2)
      | (go_at_call 34; refine (HNew.out w2 HB2.out).mono ?_; rintro e w3 ⟨w9, b, O, cO, P, cP, Q, T, rfl, hb9, hc, hx⟩; have HC := Lib.hid hc; have HB3 := Lib.hid (below_next HB2.out (below_next hb9 hc.bel)); have HX := Lib.hid hx; clear hc hb9 hx d0 d1 d2 d3))
    clear c0 c1 c2 c3 hw1
    have HKg := Lib.hid (fun (W : World) (hW : Below w3.heap.size w3 W) => gblk_keep' HK1.out (below_next HB3.out hW))
    obtain ⟨U, hU⟩ : ∃ U : Nat → Nat → Nat, U = fun i j => sB (T i j) g.nonterms.length := ⟨_, rfl⟩
    have HU := Lib.hid hU
    clear hU
    go_loopw [9, 10] (fun y x wr => ∃ (u : Value) (i : Nat), u = y ∧ i ≤ tk.length + 1 ∧ x = .int .i64 i ∧ Aside0 (KRows.R 40 wr w3.heap.size (fun _ => True) u ((List.range i).map (rowU U tk.length))) ∧ Aside0 (Below w3.heap.size w3 wr)) (fun _ x _ => tk.length + 1 - (intOf x).toNat)
    case atStart => exact ⟨_, 0, rfl, by omega, rfl, ⟨Kd.R_nil _ _ _ _ _⟩, ⟨Below.refl _ _⟩⟩
    case round =>
      obtain ⟨u, i, rfl, hi, rfl, HO, HBo⟩ := hrel
      obtain ⟨wo, rfl⟩ : ∃ wo : World, wo = wr := ⟨_, rfl⟩
      by_cases hit : i ≤ tk.length
      · go_wp2
        go_loopw [11, 12] (fun y x wr => ∃ (l : Value) (d : Nat), l = y ∧ i + d ≤ tk.length + 1 ∧ x = .int .i64 ((i + d : Nat) : Int) ∧ Aside0 (KSet.R 57 wr wo.heap.size (fun k => wo.heap.size ≤ k) l ((List.range d).map (fun d => U i (i + d)))) ∧ Aside0 (Below wo.heap.size wo wr)) (fun _ x _ => tk.length + 1 - (intOf x).toNat)
        case atStart => exact ⟨_, 0, rfl, by omega, rfl, ⟨Kd.R_nil _ _ _ _ _⟩, ⟨Below.refl _ _⟩⟩
        case round =>
          obtain ⟨l, d, rfl, hd, rfl, HL, HBi⟩ := hrel
          obtain ⟨j, hj⟩ : ∃ j, i + d = j := ⟨_, rfl⟩
          rw [hj] at hd ⊢
          have HJ := Lib.hid hj
          clear hj
          obtain ⟨wi, rfl⟩ : ∃ wi : World, wi = wr := ⟨_, rfl⟩
          by_cases hjt : j ≤ tk.length
          · have HBw := Lib.hid (below_next HBo.out HBi.out)
            have HC5 := Lib.hid (HC.out.below HBw.out)
            obtain ⟨e0, e1, e2, e3⟩ := blk_cells2 (HKg.out _ HBw.out)
            have p1 := HC5.out.head
            have p2 := HC5.out.out i hit
            have p3 := HC5.out.mid i j hit hjt
            have hcO := HC5.out.cO1
            have hcP := HC5.out.cP1 i hit
            obtain ⟨n1, hn1⟩ : ∃ n1 : Nat, n1 = tk.length + 1 := ⟨_, rfl⟩
            have hin : i < n1 := by omega
            have hjn : j < n1 := by omega
            rw [← hn1] at p1 p2 hcO hcP
            have HN1 := Lib.hid hn1
            clear hn1
            go_wp2
            go_loopw [13, 14] (fun y x wr => ∃ k : Nat, k ≤ g.nonterms.length ∧ y = .int .u64 ((sB (T i j) k : Nat) : Int) ∧ x = .int .i64 k ∧ wr = wi) (fun _ x _ => g.nonterms.length - (intOf x).toNat)
            case atStart => exact ⟨0, by omega, rfl, rfl, by first | rfl | trivial⟩
            case round =>
              obtain ⟨k, hk, rfl, rfl, rfl⟩ := hrel
              by_cases hkn : k < g.nonterms.length
              · have p4 := (HC5.out.leaf i j hit hjt).cell k hkn
                cases hT : T i j k
                · rw [hT] at p4
                  have HS : Hid (sB (T i j) (k + 1) = sB (T i j) k) := Lib.hid (by rw [sB, hT]; rfl)
                  clear hT
                  go_wp2
                  go_roundw
                  case rel => exact ⟨k + 1, by omega, by rw [HS.out], by go_num, by first | rfl | trivial⟩
                  case measure => simp [intOf]; omega
                · rw [hT] at p4
                  have HS : Hid (sB (T i j) (k + 1) = withN (sB (T i j) k) k) := Lib.hid (by rw [sB, hT]; rfl)
                  clear hT
                  have HO : Hid (bits .or .u64 ((sB (T i j) k : Nat) : Int) (IntKind.u64.wrap (2 ^ k)) = ((sB (T i j) (k + 1) : Nat) : Int)) := Lib.hid (by
                    have e1 : IntKind.u64.wrap ((2 : Int) ^ k) = ((bitN (k : Int) : Nat) : Int) := by
                      have h := shl_bit (k : Int) (by omega) (by omega)
                      rwa [show min (k : Int).toNat 64 = k by rw [Int.toNat_natCast]; omega] at h
                    rw [e1, bits_or _ _ (lt_u64 (sB_lt (show k ≤ 64 by omega)) (by omega)) (bitN_lt _), HS.out]
                    rfl)
                  go_wp2
                  go_roundw
                  case rel => exact ⟨k + 1, by omega, by rw [HO.out], by go_num, by first | rfl | trivial⟩
                  case measure => simp [intOf]; omega
              · have HE : Hid (sB (T i j) k = U i (i + d)) := Lib.hid (by
                  have hkN : k = g.nonterms.length := by omega
                  rw [HU.out, HJ.out, hkN])
                have HLen : Hid (((List.range d).map (fun d => U i (i + d))).length = d) := Lib.hid (by simp)
                have hd41 : d ≤ 41 := by have := HJ.out; omega
                go_wp2_with (first
                  | ((with_reducible refine gate_builtin (b := .append) (xs := #[.tmp 62, .tmp 64]) rfl ?_); at_builtin; go_loud (refine Kd.R_append KSet (w0 := wo) wo.heap.size rfl (.tmp 62) (.tmp 64) 40 57 (.int .u64 0) 8 rfl Tryd.underlying40 infoSet' rfl KSet_sz (by omega) l ((List.range d).map (fun d => U i (i + d))) (sB (T i j) k) [.int .u64 ((sB (T i j) k : Nat) : Int)] (fun k => wo.heap.size ≤ k) (fun _ => False) rfl rfl rfl (fun _ hk => hk.elim) (fun _ hk => Nat.le_trans HBi.out.size hk) HL.out HBi.out HBi.out.size (by rw [HLen.out]; omega) ?_); intro l1 w5 ho hb hg hat; (have HL5 := Aside0.mk ho; have HB5 := Aside0.mk hb; clear ho hb hg hat)))
                go_roundw
                case rel => exact ⟨l1, d + 1, rfl, by have := HJ.out; omega, by rw [← HJ.out]; go_num, ⟨by rw [List.range_succ, List.map_append, List.map_singleton, ← HE.out]; exact HL5.out⟩, HB5⟩
                case measure => simp [intOf]; omega
          · have HLen : Hid (((List.range i).map (rowU U tk.length)).length = i) := Lib.hid (by simp)
            have HE : Hid ((List.range i).map (rowU U tk.length) ++ [(List.range d).map (fun d => U i (i + d))] = (List.range (i + 1)).map (rowU U tk.length)) := Lib.hid (by
              have : tk.length - i + 1 = d := by have := HJ.out; omega
              rw [List.range_succ, List.map_append, List.map_singleton]
              unfold rowU
              rw [this])
            obtain ⟨Al, cl, e9⟩ := Kd.R_slice HL.out
            obtain ⟨L9, hL9⟩ : ∃ L : Nat, ((List.range d).map (fun d => U i (i + d))).length = L := ⟨_, rfl⟩
            rw [hL9] at e9
            subst e9
            clear hL9
            go_wp2_with (first
              | ((with_reducible refine gate_builtin (b := .append) (xs := #[.tmp 66, .tmp 68]) rfl ?_); at_builtin; go_loud (refine Kd.R_append KRows (w0 := w3) w3.heap.size rfl (.tmp 66) (.tmp 68) 29 40 (.slice none 0 0) 24 rfl Tryd.underlying29 infoSS rfl KRows_sz (by omega) u ((List.range i).map (rowU U tk.length)) ((List.range d).map (fun d => U i (i + d))) [.slice Al L9 cl] (fun _ => True) (fun k => wo.heap.size ≤ k) rfl rfl ⟨_, rfl, Kd.R_lower HL.out HBo.out.size⟩ (fun k hk => ⟨trivial, fun e => absurd (Kd.R_lt HO.out k e.symm) (Nat.not_lt.2 hk)⟩) (fun _ _ => trivial) (Kd.R_below HO.out HBi.out) (below_next HBo.out HBi.out) (below_next HBo.out HBi.out).size (by rw [HLen.out]; omega) ?_); intro v1 w5 ho hb hg hat; (have HO5 := Aside0.mk ho; have HB5 := Aside0.mk hb; clear ho hb hg hat)))
            go_roundw
            case rel => exact ⟨v1, i + 1, rfl, by omega, by go_num, ⟨by rw [← HE.out]; exact HO5.out⟩, HB5⟩
            case measure => simp [intOf]; omega
      · obtain rfl : i = tk.length + 1 := by omega
        go_wp2
        go_ret2
        have hsz : w.heap.size ≤ w3.heap.size := Nat.le_trans HB1.out.size HB3.out.size
        refine .inr ⟨u, U, rfl, HOK.out, Kd.R_lower HO.out hsz, below_next (below_next HB1.out HB3.out) HBo.out, fun i j => ?_, fun i j k h1 h2 h3 => ?_⟩
        · rw [HU.out]; exact sB_lt (by omega)
        · rw [← HX.out i j k h1 h2 h3]
          unfold tabOf hasN
          rw [HU.out, (inR_iff _).2 (by omega), Int.toNat_natCast, sB_test (by omega), decide_eq_true h3]
          simp
  · have hk0 : (((mayN g tk).1 : Int) == 0) = false := by rw [beq_eq_false_iff_ne]; omega
    have HOK := Lib.hid hok
    clear hok
    go_enter Tryd.func13, Tryd.ntmps13
    go_wp2_with (go_at_call 33; refine HM.out.mono ?_; rintro e w2 ⟨rfl, hb2⟩; have HB2 := Lib.hid hb2; clear hb2)
    go_ret2
    exact .inl ⟨rfl, HOK.out, below_next HB1.out HB2.out⟩
end Go.Proofs.YtndimnomkcjeiaaDoor.Hand
