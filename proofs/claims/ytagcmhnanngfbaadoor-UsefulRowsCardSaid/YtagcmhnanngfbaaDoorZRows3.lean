/- The texts that the statement's proof stands on, part 3: XDch XDpre XDder XRef03 XRlen XRword XEq XKit. -/
import Derived.Test.YtagcmhnanngfbaaDoorZRows2
import Derived.Deep.Slices
import Derived.Deep.RegionLaw
import Derived.StillTailTactics
/- Chapter 7's own search for derivations: the marks, the cuts. -/
namespace Go.Proofs.YtagcmhnanngfbaaDoor.Hand
open Go.RowKit Go.Proofs.YtagcmhnanngfbaaDoorW.PrintWords Go.Proofs.YtagcmhnanngfbaaDoorW.PrintMore Go.Proofs.YtagcmhnanngfbaaDoor.Math

/-- The marks in memory. -/
structure DChart (w0 : World) (n N O : Nat) (P cP : Nat → Nat) (Q : Nat → Nat → Nat) (T : Nat → Nat → Nat → Bool) (w : World) : Prop where
  bel : Below w0.heap.size w0 w
  out : ∀ i, i ≤ n → w.cell? ⟨O, i, none⟩ = some (.slice (some ⟨P i, 0, none⟩) (n + 1) (cP i))
  mid : ∀ i j, i ≤ n → j ≤ n → w.cell? ⟨P i, j, none⟩ = some (.slice (some ⟨Q i j, 0, none⟩) N N)
  leaf : ∀ i j, i ≤ n → j ≤ n → Row w (Q i j) N (fun k => .bool (T i j k))
  cP1 : ∀ i, i ≤ n → n + 1 ≤ cP i
  hQ : ∀ i j, i ≤ n → j ≤ n → w0.heap.size ≤ Q i j ∧ Q i j ≠ O ∧ ∀ i', i' ≤ n → Q i j ≠ P i'
  inj : ∀ i j i' j', i ≤ n → j ≤ n → i' ≤ n → j' ≤ n → Q i j = Q i' j' → i = i' ∧ j = j'
section
variable {w0 w w' : World} {n N O : Nat} {P cP : Nat → Nat} {Q : Nat → Nat → Nat} {T : Nat → Nat → Nat → Bool}
theorem DChart.below (h : DChart w0 n N O P cP Q T w) (hb : Below w.heap.size w w') : DChart w0 n N O P cP Q T w' := by
  have hk : ∀ a v, w.cell? a = some v → w'.cell? a = some v := fun a v hv => (hb.cell (World.block_lt_of_cell? w _ hv)).trans hv
  exact ⟨below_next h.bel hb, fun i hi => hk _ _ (h.out i hi), fun i j hi hj => hk _ _ (h.mid i j hi hj), fun i j hi hj => (h.leaf i j hi hj).below hb, h.cP1, h.hQ, h.inj⟩
theorem DChart.put (h : DChart w0 n N O P cP Q T w) (i j k : Nat) (hi : i ≤ n) (hj : j ≤ n) (hk : k < N) :
    DChart w0 n N O P cP Q (upd T i j k) (w.setCell ⟨Q i j, k, none⟩ (.bool true)) := by
  obtain ⟨k1, k3, k4⟩ := h.hQ i j hi hj
  have hc : ∀ a v, Q i j ≠ a.block → w.cell? a = some v → (w.setCell ⟨Q i j, k, none⟩ (.bool true)).cell? a = some v := fun a v ha hv => (World.cell?_setCell_other w _ _ _ (fun e => ha (by rw [← e]))).trans hv
  refine ⟨h.bel.setCell k1 _, fun a ha => hc _ _ k3 (h.out a ha), fun a c ha hc' => hc _ _ (k4 a ha) (h.mid a c ha hc'), fun a c ha hc' => ?_, h.cP1, h.hQ, h.inj⟩
  by_cases e : a = i ∧ c = j
  · obtain ⟨rfl, rfl⟩ := e
    refine ((h.leaf a c ha hc').set k hk (.bool true)).ext (fun q hq => ?_)
    by_cases e2 : q = k
    · subst e2; rw [if_pos rfl, upd_same]
    · rw [if_neg e2]; unfold upd; rw [if_neg (fun x => e2 x.2.2)]
  · refine ((h.leaf a c ha hc').far ⟨Q i j, k, none⟩ (fun q => e ?_) _).ext (fun q hq => by rw [upd_other e])
    obtain ⟨e1, e2⟩ := h.inj i j a c hi hj ha hc' q
    exact ⟨e1.symm, e2.symm⟩
end
theorem C_tail {w : World} {ad : Addr} {s : Int} {l : List Int} (h : Kd.C (Kd.int .i64) w (some ad) (l.length + 1) (s :: l)) : Kd.C (Kd.int .i64) w (some (ad.add 1)) l.length l := by
  obtain ⟨h1, h2, h3⟩ := h
  refine ⟨rfl, by omega, fun _ => ⟨_, rfl, fun j q hj => ?_⟩⟩
  obtain ⟨a, ha, hc⟩ := h3 (by omega)
  obtain rfl := Option.some.inj ha
  obtain ⟨c, e1, e2, e3⟩ := hc (j + 1) q (by simpa using hj)
  refine ⟨c, e1, e2, fun i u hu => ?_⟩
  have := e3 i u hu
  rw [Deep.add_add]
  rw [show 1 + (j * (Kd.int .i64).sz + i) = (j + 1) * (Kd.int .i64).sz + i by rw [show (Kd.int .i64).sz = 1 from rfl]; omega]
  exact this
set_option maxHeartbeats 2000000 in
set_option maxRecDepth 20000 in
theorem cuts_calls {w0 : World} {N O : Nat} {P cP : Nat → Nat} {Q : Nat → Nat → Nat} {T : Nat → Nat → Nat → Bool} (hN : N ≤ 60) (At : Option Addr) (ct : Nat) (tk : List Int) (hn : tk.length ≤ 8) :
    ∀ (r : List Int) (B : Option Addr) (c : Nat) (i j : Nat) (w : World), DChart w0 tk.length N O P cP Q T w → Kd.C (Kd.int .i64) w At tk.length tk → Kd.C (Kd.int .i64) w B r.length r → (∀ s ∈ r, -(N : Int) ≤ s ∧ s < 4611686018427387904) → r.length ≤ c → i ≤ j → j ≤ tk.length →
    Quiet 64 #[.slice (some ⟨O, 0, none⟩) (tk.length + 1) (tk.length + 1), .slice At tk.length ct, .slice B r.length c, .int .i64 i, .int .i64 j] w (.bool (tb (Cut T tk r i j))) := by
  intro r
  induction r with
  | nil =>
    intro B c i j w h hT hr hs hc hij hj
    unfold Quiet
    have HE : Hid (tb (Cut T tk [] i j) = ((i : Int) == (j : Int))) := Lib.hid (by
      rw [Bool.eq_iff_iff, tb_iff, beq_iff_eq]
      show i = j ↔ _
      omega)
    clear h hT hr hs
    go_enter Tryd.func64, Tryd.ntmps64
    go_wp2
    go_ret
    exact ⟨ret_bool HE.out.symm, 0, rfl⟩
  | cons s l ih =>
    intro B c i j w h hT hr hs hc hij hj
    unfold Quiet
    obtain ⟨ad, s', rfl, hcs, HS'⟩ := at_scalar hr 0 (by simp) 0
    have hcs0 : w.cell? ad = some (.int .i64 s') := by simpa [Addr.add] using hcs
    have hss : s = s' := HS'.out
    subst hss
    have hs0 := hs s (List.mem_cons_self ..)
    obtain ⟨hs1, hs2⟩ := hs0
    have HTl := Lib.hid (C_tail hr)
    have HH := Lib.hid h
    have HT := Lib.hid hT
    have HS := Lib.hid (fun x (hx : x ∈ l) => hs x (List.mem_cons_of_mem _ hx))
    have hlen := hr.2.1
    have hlt := hT.2.1
    simp only [List.length_cons] at hlen hc
    rw [List.length_cons]
    have hl1 : ((l.length + 1 : Nat) : Int) = (l.length : Int) + 1 := by omega
    have hlz : (((l.length : Int) + 1) == 0) = false := by rw [beq_eq_false_iff_ne]; omega
    clear h hT hr hs HS' hcs
    have HIH : Hid (∀ (q d : Nat), i ≤ q → q ≤ j → Quiet 64 #[.slice (some ⟨O, 0, none⟩) (tk.length + 1) (tk.length + 1), .slice At tk.length ct, (if c = 1 then .slice (some ad) 0 0 else .slice (some (ad.add 1)) l.length (c - 1)), .int .i64 q, .int .i64 j] (w.drewN d) (.bool (tb (Cut T tk l q j)))) := Lib.hid (fun q d h1 h2 => by
      have hb := pw_below_drewN (Below.refl w.heap.size w) d
      by_cases e : c = 1
      · rw [if_pos e]
        have hl0 : l = [] := List.eq_nil_of_length_eq_zero (by omega)
        have := ih (some ad) 0 q j _ (HH.out.below hb) (Kd.C_below HT.out hb) (by rw [hl0]; exact ⟨rfl, by simp, fun h => absurd h (by simp)⟩) HS.out (by rw [hl0]; simp) h2 hj
        rwa [show l.length = 0 by rw [hl0]; rfl] at this
      · rw [if_neg e]
        exact ih _ (c - 1) q j _ (HH.out.below hb) (Kd.C_below HT.out hb) (Kd.C_below HTl.out hb) HS.out (by omega) h2 hj)
    have hcase : c = 1 ∨ ¬ c = 1 := by omega
    rcases hcase with hc1 | hc1
    all_goals
      first | simp only [if_pos hc1] at HIH | simp only [if_neg hc1] at HIH
      try subst hc1
      go_enter Tryd.func64, Tryd.ntmps64
      go_wp2
      go_loopw [11] (fun x wr => ∃ (q d : Nat), i ≤ q ∧ q ≤ j + 1 ∧ x = .int .i64 q ∧ wr = w.drewN d ∧ Hid (∀ q', i ≤ q' → q' < q → ¬ (Hb T tk s i q' = true ∧ Cut T tk l q' j))) (fun x _ => j + 1 - (intOf x).toNat)
      case atStart => exact ⟨i, 0, by omega, by omega, rfl, rfl, Lib.hid (fun q' h1 h2 => by omega)⟩
      case round =>
        obtain ⟨q, d, hq1, hq2, rfl, rfl, HX⟩ := hrel
        by_cases hqj : q ≤ j
        · have HNo : Hid (¬ (Hb T tk s i q = true ∧ Cut T tk l q j) → ∀ q', i ≤ q' → q' < q + 1 → ¬ (Hb T tk s i q' = true ∧ Cut T tk l q' j)) := Lib.hid (fun hno q' h1 h2 => by
            rcases Nat.lt_or_ge q' q with h3 | h3
            · exact HX.out q' h1 h3
            · obtain rfl : q' = q := by omega
              exact hno)
          by_cases h0 : 0 ≤ s
          · by_cases hqi : q = i + 1
            · have hqb : ((q : Int) == (i : Int) + 1) = true := by rw [beq_iff_eq]; omega
              have HQi := Lib.hid hqi
              obtain ⟨ad2, y, rfl, hcy, HY⟩ := at_scalar HT.out i (by omega) 0
              have HHb : Hid (Hb T tk s i q = (y == s)) := Lib.hid (by unfold Hb; rw [if_pos h0, HY.out, hqi]; simp)
              have hil : i < tk.length := by omega
              clear hqi
              by_cases hys : y = s
              · subst hys
                have hyb : (y == y) = true := by simp
                have HT2 := Lib.hid (HIH.out q d hq1 hqj)
                cases hcut : tb (Cut T tk l q j)
                · rw [hcut] at HT2
                  have HN := Lib.hid (HNo.out (fun h => by rw [tb_yes h.2] at hcut; cases hcut))
                  clear hcut
                  go_wp2_with (go_at_call 64; refine HT2.out.mono ?_; rintro e w' ⟨rfl, n1, rfl⟩)
                  go_roundw
                  case rel => exact ⟨q + 1, d + n1, by omega, by omega, by go_num, by first | rfl | rw [World.drewN_drewN], HN⟩
                  case measure => simp [intOf]; omega
                · rw [hcut] at HT2
                  have HE : Hid (tb (Cut T tk (y :: l) i j) = true) := Lib.hid (tb_yes ⟨q, hq1, hqj, by rw [HHb.out]; simp, tb_iff.1 hcut⟩)
                  clear hcut
                  go_wp2_with (go_at_call 64; refine HT2.out.mono ?_; rintro e w' ⟨rfl, n1, rfl⟩)
                  go_ret
                  exact ⟨ret_bool HE.out.symm, _, by first | rfl | exact World.drewN_drewN _ _ _⟩
              · have hyb : (y == s) = false := by simpa using hys
                have HN := Lib.hid (HNo.out (fun h => by rw [HHb.out, hyb] at h; cases h.1))
                go_wp2
                go_roundw
                case rel => exact ⟨q + 1, d, by omega, by omega, by go_num, rfl, HN⟩
                case measure => simp [intOf]; omega
            · have hqb : ((q : Int) == (i : Int) + 1) = false := by rw [beq_eq_false_iff_ne]; omega
              have HN := Lib.hid (HNo.out (fun h => by
                have h1 := h.1
                unfold Hb at h1
                rw [if_pos h0] at h1
                simp only [Bool.and_eq_true, decide_eq_true_eq] at h1
                omega))
              go_wp2
              go_roundw
              case rel => exact ⟨q + 1, d, by omega, by omega, by go_num, rfl, HN⟩
              case measure => simp [intOf]; omega
          · have k2 := HH.out.out i (by omega)
            have k3 := HH.out.mid i q (by omega) (by omega)
            have k4 := (HH.out.leaf i q (by omega) (by omega)).cell (-1 - s).toNat (by omega)
            have c2 := HH.out.cP1 i (by omega)
            have d1 : 0 ≤ -1 - s := by omega
            have d2 : -1 - s < (N : Int) := by omega
            have HHb : Hid (Hb T tk s i q = T i q (-1 - s).toNat) := Lib.hid (by unfold Hb; rw [if_neg h0])
            cases hT : T i q (-1 - s).toNat
            · rw [hT] at k4 HHb
              have HN := Lib.hid (HNo.out (fun h => by rw [HHb.out] at h; cases h.1))
              clear hT
              go_wp2
              go_roundw
              case rel => exact ⟨q + 1, d, by omega, by omega, by go_num, rfl, HN⟩
              case measure => simp [intOf]; omega
            · rw [hT] at k4 HHb
              clear hT
              have HT2 := Lib.hid (HIH.out q d hq1 hqj)
              cases hcut : tb (Cut T tk l q j)
              · rw [hcut] at HT2
                have HN := Lib.hid (HNo.out (fun h => by rw [tb_yes h.2] at hcut; cases hcut))
                clear hcut
                go_wp2_with (go_at_call 64; refine HT2.out.mono ?_; rintro e w' ⟨rfl, n1, rfl⟩)
                go_roundw
                case rel => exact ⟨q + 1, d + n1, by omega, by omega, by go_num, by first | rfl | rw [World.drewN_drewN], HN⟩
                case measure => simp [intOf]; omega
              · rw [hcut] at HT2
                have HE : Hid (tb (Cut T tk (s :: l) i j) = true) := Lib.hid (tb_yes ⟨q, hq1, hqj, HHb.out, tb_iff.1 hcut⟩)
                clear hcut
                go_wp2_with (go_at_call 64; refine HT2.out.mono ?_; rintro e w' ⟨rfl, n1, rfl⟩)
                go_ret
                exact ⟨ret_bool HE.out.symm, _, by first | rfl | exact World.drewN_drewN _ _ _⟩
        · have HE : Hid (tb (Cut T tk (s :: l) i j) = false) := Lib.hid (tb_no (by
            rintro ⟨q', h1, h2, h3, h4⟩
            exact HX.out q' h1 (by omega) ⟨h3, h4⟩))
          go_wp2
          go_ret
          exact ⟨ret_bool HE.out.symm, _, rfl⟩
end Go.Proofs.YtagcmhnanngfbaaDoor.Hand
/- Chapter 7's own marks while they are made; plain facts of its search. -/
namespace Go.Proofs.YtagcmhnanngfbaaDoor.Hand
open Go.RowKit Go.Proofs.YtagcmhnanngfbaaDoorW.PrintWords Go.Proofs.YtagcmhnanngfbaaDoorW.PrintMore Go.Proofs.YtagcmhnanngfbaaDoor.Math

/-- Rows of N, each told by its block. -/
def KDq (N : Nat) : Kd Nat := Kd.scalar (fun q : Nat => Value.slice (some ⟨q, 0, none⟩) N N) (fun _ => rfl)
theorem KDq_sz (N : Nat) : 0 < (KDq N).sz := Nat.zero_lt_one
theorem infoSBd : (Tryd.prog.info? 60).map (fun i => (i.zero, i.size, i.bytes)) = some (some (.slice none 0 0), 1, 24) := by kernel_rfl
theorem infoSSBd : (Tryd.prog.info? 97).map (fun i => (i.zero, i.size, i.bytes)) = some (some (.slice none 0 0), 1, 24) := by kernel_rfl
/-- Which rows are made: those of the first k, and l of the next one. -/
def Dn (n k l i j : Nat) : Prop := i < k ∧ j ≤ n ∨ i = k ∧ j < l
structure DPre (w0 : World) (n N O k l : Nat) (P cP : Nat → Nat) (Q : Nat → Nat → Nat) (u : Value) (w : World) : Prop where
  bel : Below w0.heap.size w0 w
  out : Row w O (n + 1) (fun i => if i < k then .slice (some ⟨P i, 0, none⟩) (n + 1) (cP i) else if i = k then u else .slice none 0 0)
  hO : w0.heap.size ≤ O
  own : (KDq N).R 60 w w0.heap.size (fun b => b ≠ O) u ((List.range l).map (Q k))
  mid : ∀ i j, i < k → j ≤ n → w.cell? ⟨P i, j, none⟩ = some (.slice (some ⟨Q i j, 0, none⟩) N N)
  cap : ∀ i, i < k → n + 1 ≤ cP i
  farP : ∀ i, i < k → u.ownBlock ≠ some (P i) ∧ P i ≠ O ∧ w0.heap.size ≤ P i
  leaf : ∀ i j, Dn n k l i j → Row w (Q i j) N (fun _ => .bool false)
  farQ : ∀ i j, Dn n k l i j → u.ownBlock ≠ some (Q i j) ∧ w0.heap.size ≤ Q i j ∧ Q i j ≠ O ∧ ∀ i', i' < k → Q i j ≠ P i'
  inj : ∀ i j i' j', Dn n k l i j → Dn n k l i' j' → Q i j = Q i' j' → i = i' ∧ j = j'
theorem DPre.below {w0 w w' : World} {n N O k l : Nat} {P cP : Nat → Nat} {Q : Nat → Nat → Nat} {u : Value} (h : DPre w0 n N O k l P cP Q u w) (hb : Below w.heap.size w w') : DPre w0 n N O k l P cP Q u w' := by
  have hk : ∀ a v, w.cell? a = some v → w'.cell? a = some v := fun a v hv => (hb.cell (World.block_lt_of_cell? w _ hv)).trans hv
  exact ⟨below_next h.bel hb, h.out.below hb, h.hO, Kd.R_below h.own hb, fun i j hi hj => hk _ _ (h.mid i j hi hj), h.cap, h.farP, fun i j hd => (h.leaf i j hd).below hb, h.farQ, h.inj⟩
/-- One row more. -/
theorem DPre.step {w0 w w3 w5 : World} {n N O k l : Nat} {P cP : Nat → Nat} {Q : Nat → Nat → Nat} {u u1 : Value} (h : DPre w0 n N O k l P cP Q u w) (hk : k ≤ n) (hl : l ≤ n)
    (hb3 : Below w.heap.size w w3) (hrow : Row w3 w.heap.size N (fun _ => .bool false)) (ho : (KDq N).R 60 w5 w0.heap.size (fun b => b ≠ O) u1 ((List.range l).map (Q k) ++ [w.heap.size])) (hb : Below w0.heap.size w0 w5) (hg : w3.grownBy w5 u.ownBlock) (hat : u1.ownBlock = u.ownBlock ∨ ∃ b, u1.ownBlock = some b ∧ w3.heap.size ≤ b) :
    DPre w0 n N O k (l + 1) P cP (fun i j => if i = k ∧ j = l then w.heap.size else Q i j) u1 (w5.setCell ⟨O, k, none⟩ u1) := by
  have h3 := h.below hb3
  have hold : ∀ q, q < w3.heap.size → some q ≠ u.ownBlock → u1.ownBlock ≠ some q := by
    intro q hq hne e
    rcases hat with e1 | ⟨b, e1, hb⟩
    · exact hne (by rw [← e1, e])
    · rw [e1] at e; injection e with e; omega
  have hnew : some w.heap.size ≠ u.ownBlock := fun e => absurd (Kd.R_lt h.own _ e.symm) (Nat.lt_irrefl _)
  have hOu : some O ≠ u.ownBlock := fun e => h.own.1 O e.symm rfl
  have hOlt : O < w.heap.size := h.out.lt
  have hs3 : w.heap.size < w3.heap.size := hrow.lt
  have hq : ∀ q, q < w3.heap.size → some q ≠ u.ownBlock → q ≠ O → (w5.setCell ⟨O, k, none⟩ u1).heap[q]? = w3.heap[q]? := fun q hq hne hkb => (Below.heap_setCell w5 ⟨O, k, none⟩ u1 q hkb).trans (hg.block q hq hne)
  have hOk : w5.heap[O]? = w3.heap[O]? := hg.block O (by omega) hOu
  have hsz : w3.heap.size ≤ (w5.setCell ⟨O, k, none⟩ u1).heap.size := by rw [World.size_setCell]; exact hg.size
  have hPlt : ∀ i, i < k → P i < w.heap.size := fun i hi => World.block_lt_of_cell? w _ (h.mid i 0 hi (by omega))
  have hQlt : ∀ i j, Dn n k l i j → Q i j < w.heap.size := fun i j hd => (h.leaf i j hd).lt
  have hDn : ∀ i j, Dn n k (l + 1) i j → (i = k ∧ j = l) ∨ (¬ (i = k ∧ j = l) ∧ Dn n k l i j) := fun i j hd => by unfold Dn at *; omega
  have hmap : (List.range (l + 1)).map (fun j => if k = k ∧ j = l then w.heap.size else Q k j) = (List.range l).map (Q k) ++ [w.heap.size] := by
    rw [List.range_succ, List.map_append]
    congr 1
    · exact List.map_congr_left (fun j hj => by have := List.mem_range.1 hj; rw [if_neg (by omega)])
    · simp
  refine ⟨hb.setCell h.hO _, ?_, h.hO, ?_, ?_, h.cap, ?_, ?_, ?_, ?_⟩
  · have hr5 : Row w5 O (n + 1) _ := (h3.out).block hOk hg.size
    refine (hr5.set k (by omega) u1).ext (fun q hq => ?_)
    by_cases e : q = k
    · subst e; rw [if_pos rfl, if_neg (by omega), if_pos rfl]
    · rw [if_neg e]; by_cases e2 : q < k
      · rw [if_pos e2, if_pos e2]
      · rw [if_neg e2, if_neg e2, if_neg e, if_neg e]
  · rw [hmap]
    exact Kd.R_far ho (fun b hb => hb) _
  · intro i j hi hj
    obtain ⟨f1, f2, f3⟩ := h.farP i hi
    rw [if_neg (by omega)]
    exact (World.cell?_of_block (w := w3) (a := ⟨P i, j, none⟩) (hq (P i) (by have := hPlt i hi; omega) (fun e => f1 e.symm) f2)).trans (h3.mid i j hi hj)
  · intro i hi
    obtain ⟨f1, f2, f3⟩ := h.farP i hi
    exact ⟨hold _ (by have := hPlt i hi; omega) (fun e => f1 e.symm), f2, f3⟩
  · intro i j hd
    rcases hDn i j hd with ⟨rfl, rfl⟩ | ⟨hne, hd'⟩
    · rw [if_pos ⟨rfl, rfl⟩]
      exact hrow.block (hq _ hs3 hnew (by omega)) hsz
    · rw [if_neg hne]
      obtain ⟨f1, f2, f3, f4⟩ := h.farQ i j hd'
      exact (h3.leaf i j hd').block (hq _ (by have := hQlt i j hd'; omega) (fun e => f1 e.symm) f3) hsz
  · intro i j hd
    rcases hDn i j hd with ⟨rfl, rfl⟩ | ⟨hne, hd'⟩
    · rw [if_pos ⟨rfl, rfl⟩]
      exact ⟨hold _ hs3 hnew, h.bel.size, by omega, fun i' hi' => by have := hPlt i' hi'; omega⟩
    · rw [if_neg hne]
      obtain ⟨f1, f2, f3, f4⟩ := h.farQ i j hd'
      exact ⟨hold _ (by have := hQlt i j hd'; omega) (fun e => f1 e.symm), f2, f3, f4⟩
  · intro i j i' j' hd hd' he
    rcases hDn i j hd with ⟨rfl, rfl⟩ | ⟨hne, hd1⟩ <;> rcases hDn i' j' hd' with ⟨rfl, rfl⟩ | ⟨hne', hd1'⟩
    · exact ⟨rfl, rfl⟩
    · rw [if_pos ⟨rfl, rfl⟩, if_neg hne'] at he; have := hQlt i' j' hd1'; omega
    · rw [if_neg hne, if_pos ⟨rfl, rfl⟩] at he; have := hQlt i j hd1; omega
    · rw [if_neg hne, if_neg hne'] at he; exact h.inj i j i' j' hd1 hd1' he
/-- A row of rows is done. -/
theorem DPre.next {w0 w : World} {n N O k : Nat} {P cP : Nat → Nat} {Q : Nat → Nat → Nat} {u : Value} (h : DPre w0 n N O k (n + 1) P cP Q u w) :
    ∃ P' cP', DPre w0 n N O (k + 1) 0 P' cP' Q (.slice none 0 0) w := by
  have hlen : ((List.range (n + 1)).map (Q k)).length = n + 1 := by simp
  obtain ⟨p, cp, hu, k1, k2, -⟩ := Kd.R_form h.own (by rw [hlen]; omega)
  have hr := Kd.R_reads' (hu ▸ h.own)
  rw [hlen] at hu
  have hDn : ∀ i j, Dn n (k + 1) 0 i j → Dn n k (n + 1) i j := fun i j hd => by unfold Dn at *; omega
  have hup : u.ownBlock = some p := by rw [hu]; rfl
  refine ⟨fun i => if i = k then p else P i, fun i => if i = k then cp else cP i, h.bel, ?_, h.hO, Kd.R_nil _ _ _ _ _, ?_, ?_, ?_, fun i j hd => h.leaf i j (hDn i j hd), ?_, fun i j i' j' hd hd' => h.inj i j i' j' (hDn _ _ hd) (hDn _ _ hd')⟩
  · refine h.out.ext (fun q hq => ?_)
    by_cases e : q = k
    · subst e; rw [if_neg (by omega), if_pos rfl, if_pos (by omega), if_pos rfl, if_pos rfl, hu]
    · by_cases e2 : q < k
      · rw [if_pos e2, if_pos (by omega), if_neg e, if_neg e]
      · rw [if_neg e2, if_neg e, if_neg (by omega)]; split <;> rfl
  · intro i j hi hj
    by_cases e : i = k
    · subst e
      rw [if_pos rfl]
      have := (Kd.R_celln 0 (hu ▸ h.own) (j : Int) (by omega) (by omega)).1
      rw [Int.toNat_natCast] at this
      rw [this]
      simp [rdOf, List.getD, List.getElem?_range (show j < n + 1 by omega)]
    · rw [if_neg e]; exact h.mid i j (by omega) hj
  · intro i hi
    by_cases e : i = k
    · rw [if_pos e]
      have := hr.2.1
      rw [hlen] at this
      omega
    · rw [if_neg e]; exact h.cap i (by omega)
  · intro i hi
    refine ⟨by simp [Value.ownBlock], ?_⟩
    by_cases e : i = k
    · rw [if_pos e]
      refine ⟨fun e2 => h.own.1 p hup e2, k1⟩
    · rw [if_neg e]; exact (h.farP i (by omega)).2
  · intro i j hd
    obtain ⟨f1, f2, f3, f4⟩ := h.farQ i j (hDn _ _ hd)
    refine ⟨by simp [Value.ownBlock], f2, f3, fun i' hi' => ?_⟩
    by_cases e : i' = k
    · rw [if_pos e]; exact fun e2 => f1 (by rw [hup, e2])
    · rw [if_neg e]; exact f4 i' (by omega)
theorem DPre.done {w0 w : World} {n N O : Nat} {P cP : Nat → Nat} {Q : Nat → Nat → Nat} {u : Value} (h : DPre w0 n N O (n + 1) 0 P cP Q u w) : DChart w0 n N O P cP Q (fun _ _ _ => false) w := by
  have hd : ∀ i j, i ≤ n → j ≤ n → Dn n (n + 1) 0 i j := fun i j h1 h2 => by unfold Dn; omega
  refine ⟨h.bel, fun i hi => ?_, fun i j hi hj => h.mid i j (by omega) hj, fun i j hi hj => h.leaf i j (hd i j hi hj), fun i hi => h.cap i (by omega), fun i j hi hj => ?_, fun i j i' j' h1 h2 h3 h4 => h.inj i j i' j' (hd i j h1 h2) (hd i' j' h3 h4)⟩
  · have := h.out.cell i (by omega)
    rwa [if_pos (by omega)] at this
  · obtain ⟨f1, f2, f3, f4⟩ := h.farQ i j (hd i j hi hj)
    exact ⟨f2, f3, fun i' hi' => f4 i' (by omega)⟩
/-- How much is missing of a whole table. -/
def dmeas (n N : Nat) (T : Nat → Nat → Nat → Bool) : Nat := tot (n + 1) (fun i => tot (n + 1) (fun j => miss N (T i j)))
theorem dmeas_upd {n N : Nat} {T : Nat → Nat → Nat → Bool} {i j k : Nat} (hi : i ≤ n) (hj : j ≤ n) (hk : k < N) (h : T i j k = false) : dmeas n N (upd T i j k) < dmeas n N T := by
  have le : ∀ a b, miss N (upd T i j k a b) ≤ miss N (T a b) := fun a b => by
    by_cases e : a = i ∧ b = j
    · obtain ⟨rfl, rfl⟩ := e; exact Nat.le_of_lt (miss_upd hk h)
    · rw [show upd T i j k a b = T a b from funext fun c => upd_other e]; exact Nat.le_refl _
  refine tot_lt (x := i) (tot_lt (x := j) (miss_upd hk h) (by omega) (fun b _ => le i b)) (by omega) (fun a _ => tot_mono (fun b _ => le a b))
def CDl (R : List (Int × List Int)) (tk : List Int) (T : Nat → Nat → Nat → Bool) (a b c : Nat) : Prop := T a b (R.getD c (0, [])).1.toNat = true ∨ ¬ Cut T tk (R.getD c (0, [])).2 a b
/-- All that was looked at ahead of a place is closed. -/
def XDl (R : List (Int × List Int)) (tk : List Int) (T : Nat → Nat → Nat → Bool) (i j k : Nat) : Prop := ∀ a b c, a ≤ b → b ≤ tk.length → c < R.length → (a < i ∨ a = i ∧ (b < j ∨ b = j ∧ c < k)) → CDl R tk T a b c
theorem XDl.imp {R : List (Int × List Int)} {tk : List Int} {T : Nat → Nat → Nat → Bool} {i j k i' j' k' : Nat} (h : XDl R tk T i j k) (hi : ∀ a b c, a ≤ b → b ≤ tk.length → c < R.length → (a < i' ∨ a = i' ∧ (b < j' ∨ b = j' ∧ c < k')) → (a < i ∨ a = i ∧ (b < j ∨ b = j ∧ c < k)) ∨ CDl R tk T a b c) : XDl R tk T i' j' k' :=
  fun a b c h1 h2 h3 h4 => (hi a b c h1 h2 h3 h4).elim (fun h5 => h a b c h1 h2 h3 h5) id
theorem XDl.exact {R : List (Int × List Int)} {t N : Nat} {tk : List Int} {T : Nat → Nat → Nat → Bool} (hR : RulesIn t N R) (hS : Sound R tk tk.length N T) (h : XDl R tk T (tk.length + 1) 0 0) : Exact R tk tk.length N T := by
  have full : ∀ d i j, i ≤ j → j ≤ tk.length → j - i = d → Full1 R tk N T i j := by
    intro d
    induction d using Nat.strongRecOn with
    | _ d ih =>
      intro i j hij hj hd
      refine fixed_full hj (fun r hr => hR.left hr) (fun i' j' h1 h2 h3 h4 => ih (j' - i') (by omega) i' j' h2 (by omega) rfl) (fun r hr => ?_)
      obtain ⟨c, hc, rfl⟩ := List.getElem_of_mem hr
      have := h i j c hij hj hc (by omega)
      unfold CDl at this
      rwa [List.getD_eq_getElem?_getD, List.getElem?_eq_getElem hc, Option.getD_some] at this
  exact fun i j k h1 h2 h3 => ⟨hS i j k h1 h2 h3, full _ i j h1 h2 rfl k h3⟩
end Go.Proofs.YtagcmhnanngfbaaDoor.Hand
/- Contract of chapter 7's own derives. -/
namespace Go.Proofs.YtagcmhnanngfbaaDoor.Hand
open Go.RowKit Go.Proofs.YtagcmhnanngfbaaDoorW.PrintWords Go.Proofs.YtagcmhnanngfbaaDoorW.PrintMore Go.Proofs.YtagcmhnanngfbaaDoor.Math

set_option maxHeartbeats 2000000 in
set_option maxRecDepth 100000 in
theorem derives_calls (v : Value) (g : Gr) (x : Nat) (At : Option Addr) (ct : Nat) (tk : List Int) (w : World) (hv : GramAt w v g) (hc : GOk g) (hx : x < g.nonterms.length) (hn : tk.length ≤ 8) (hr : Kd.C (Kd.int .i64) w At tk.length tk) :
    Calls Tryd.prog 27 #[v, .int .i64 x, .slice At tk.length ct] w fun e w' => e = .returned (.bool (tb (Der g.rules tk x 0 tk.length))) ∧ Below w.heap.size w w' := by
  have HV := Lib.hid hv
  obtain ⟨AT, cT, AN, cN, AR, cR, rfl, q1, q2, q3, q4, q5, q6⟩ := hv
  have hlr := q6.2.1
  have l2 := q5.2.1
  have hlt := hr.2.1
  have hN60 : g.nonterms.length ≤ 60 := by have := hc.size; omega
  obtain ⟨w1, hw1⟩ : ∃ w1, w.alloc (.cells #[.slice AT g.terms.length cT, .slice AN g.nonterms.length cN, .int .i64 g.ax, .slice AR g.rules.length cR] 25) = w1 := ⟨_, rfl⟩
  have hb1 : Below w.heap.size w w1 := by rw [← hw1]; exact below_alloc (Below.refl _ _) _
  have hk1 : w1.heap[w.heap.size]? = some (.cells #[.slice AT g.terms.length cT, .slice AN g.nonterms.length cN, .int .i64 g.ax, .slice AR g.rules.length cR] 25 (0, 0)) := by rw [← hw1]; exact heap_alloc_new w _
  have hgl : w.heap.size < w1.heap.size := by rw [← hw1]; simp
  have HB1 := Lib.hid hb1
  have HK1 := Lib.hid hk1
  have HGl := Lib.hid hgl
  have HR := Lib.hid (Kd.C_below q6 hb1)
  have HT := Lib.hid (Kd.C_below hr hb1)
  have HC := Lib.hid hc
  clear hb1 hk1 q4 q5 q6 hr hc hgl
  obtain ⟨m, hm⟩ : ∃ m : Nat, m = tk.length + 1 := ⟨_, rfl⟩
  have hmI : IntKind.i64.wrap ((tk.length : Int) + 1) = (m : Int) := by rw [Go.IntWalk.i64_in _ (by omega)]; omega
  have hmI2 : ((tk.length : Int) + 1) = (m : Int) := by omega
  have hmk : ∀ W : World, (Instr.makeSlice 96 (.int .i64 ((m : Nat) : Int)) (.int .i64 ((m : Nat) : Int))).run Tryd.prog W = .ok (.slice (some ⟨W.heap.size, 0, none⟩) m m) (W.alloc (.cells (madeCells #[.slice none 0 0] m) 97)) :=
    print_make_of (P := Tryd.prog) 96 97 (.slice none 0 0) 24 rfl infoSSBd rfl (by decide) m (by omega)
  have hmkb : ∀ W : World, (Instr.makeSlice 60 (.int .i64 ((g.nonterms.length : Nat) : Int)) (.int .i64 ((g.nonterms.length : Nat) : Int))).run Tryd.prog W = .ok (.slice (some ⟨W.heap.size, 0, none⟩) g.nonterms.length g.nonterms.length) (W.alloc (.cells (madeCells #[.bool false] g.nonterms.length) 4)) :=
    print_make_of (P := Tryd.prog) 60 4 (.bool false) 1 rfl infoBool rfl (by decide) g.nonterms.length (by omega)
  have HM := Lib.hid hm
  clear hm
  go_enter Tryd.func27, Tryd.ntmps27
  go_wp2
  have HP : Aside0 (DPre w1 tk.length g.nonterms.length w1.heap.size 0 0 (fun _ => 0) (fun _ => 0) (fun _ _ => 0) (.slice none 0 0) (w1.alloc (.cells (madeCells #[.slice none 0 0] m) 97))) := by
    rw [HM.out]
    exact ⟨below_alloc (Below.refl _ _) _, (Row.made w1 (.slice none 0 0) (tk.length + 1) _).ext (fun q _ => by rw [if_neg (by omega)]; split <;> rfl), Nat.le_refl _, Kd.R_nil _ _ _ _ _, fun i j h => absurd h (Nat.not_lt_zero _), fun i h => absurd h (Nat.not_lt_zero _), fun i h => absurd h (Nat.not_lt_zero _), fun i j h => by unfold Dn at h; omega, fun i j h => by unfold Dn at h; omega, fun i j i' j' h => by unfold Dn at h; omega⟩
  obtain ⟨w2, hw2⟩ : ∃ w2, w1.alloc (.cells (madeCells #[.slice none 0 0] m) 97) = w2 := ⟨_, rfl⟩
  rw [hw2] at HP ⊢
  obtain ⟨O, hO⟩ : ∃ O, w1.heap.size = O := ⟨_, rfl⟩
  rw [hO] at HP ⊢
  clear hw2 hO hw1 hmI hmI2 hmk
  go_loopw [9] (fun a wr => ∃ (k : Nat) (P cP : Nat → Nat) (Q : Nat → Nat → Nat), k ≤ tk.length + 1 ∧ a = .int .i64 k ∧ Aside0 (DPre w1 tk.length g.nonterms.length O k 0 P cP Q (.slice none 0 0) wr)) (fun a _ => tk.length + 1 - (intOf a).toNat)
  case atStart => exact ⟨0, _, _, _, by omega, rfl, HP⟩
  case round =>
    obtain ⟨k, P, cP, Q, hk, rfl, HP1⟩ := hrel
    obtain ⟨wo, rfl⟩ : ∃ wo : World, wo = wr := ⟨_, rfl⟩
    by_cases hkn : k ≤ tk.length
    · go_wp2
      go_loopw [10] (fun a wr => ∃ (l : Nat) (u : Value) (Q : Nat → Nat → Nat), l ≤ tk.length + 1 ∧ a = .int .i64 l ∧ Aside0 (DPre w1 tk.length g.nonterms.length O k l P cP Q u wr)) (fun a _ => tk.length + 1 - (intOf a).toNat)
      case atStart => exact ⟨0, _, _, by omega, rfl, HP1⟩
      case round =>
        obtain ⟨l, u, Q1, hl, rfl, HP2⟩ := hrel
        by_cases hln : l ≤ tk.length
        · obtain ⟨f0, f1, f2, f3⟩ := blk_cells2 (gblk_keep' HK1.out HP2.out.bel)
          have e1 := HP2.out.out.cell k (by omega)
          rw [if_neg (by omega), if_pos rfl] at e1
          have e2 := HP2.out.out.free k
          obtain ⟨w3, hw3⟩ : ∃ w3, wr.alloc (.cells (madeCells #[.bool false] g.nonterms.length) 4) = w3 := ⟨_, rfl⟩
          have hb3 : Below wr.heap.size wr w3 := by rw [← hw3]; exact below_alloc (Below.refl _ _) _
          have HRow3 := Aside0.mk (show Row w3 wr.heap.size g.nonterms.length (fun _ => .bool false) by rw [← hw3]; exact Row.made wr _ _ _)
          have HE1 := HP2.out.own
          have hlen : ((List.range l).map (Q1 k)).length = l := by simp
          have i1 : (0 : Int) ≤ (k : Int) := by omega
          have i2 : (k : Int) < (m : Int) := by have := HM.out; omega
          have hgw : w.heap.size < wr.heap.size := World.block_lt_of_cell? wr _ f0
          have hOw : O < wr.heap.size := HP2.out.out.lt
          have e3 := (hb3.cell (p := ⟨O, k, none⟩) hOw).trans e1
          have e4 : ∀ o, (w3.alloc o).cell? ⟨O, k, none⟩ = some u := fun o => (World.cell?_alloc_lt w3 o ⟨O, k, none⟩ (by show O < _; have := hb3.size; omega)).trans e3
          have hb3d : Below wr.heap.size wr w3.drew := below_drew1 hb3
          have HF5 := Lib.hid (show ∀ b, w3.drew.heap.size ≤ b → b ≠ O from fun b hb => by have := hb3d.size; omega)
          have HO5 := Aside0.mk (Kd.R_below HP2.out.own hb3d)
          have HB5 := Aside0.mk (below_next HP2.out.bel hb3d)
          have HO6 : Hid (O < w3.drew.heap.size ∧ some O ≠ u.ownBlock) := Lib.hid ⟨by have := hb3d.size; omega, fun e => HP2.out.own.1 O e.symm rfl⟩
          have HE5 : Hid (w3.drew.cell? ⟨O, k, none⟩ = some u ∧ w3.drew.frozen? ⟨O, k, none⟩ = false) := Lib.hid ⟨(hb3d.cell (p := ⟨O, k, none⟩) hOw).trans e1, (hb3d.frozen (p := ⟨O, k, none⟩) hOw).trans e2⟩
          have HRw5 := Aside0.mk (HRow3.out.below (below_drew1 (Below.refl _ _)))
          have HB3 := Aside0.mk hb3d
          have HL := Lib.hid hlen
          clear hlen HE1 hb3 hb3d
          go_wp2
          go_region_law (refine Kd.R_append_step (KDq g.nonterms.length) (w0 := w1) (W := w3.drew) w1.heap.size (by rfl) (.tmp 35) (.tmp 40) 97 60 (.slice none 0 0) 24 rfl Tryd.underlying97 infoSBd rfl (KDq_sz g.nonterms.length) (by omega) u ((List.range l).map (Q1 k)) wr.heap.size [.slice (some ⟨wr.heap.size, 0, none⟩) g.nonterms.length g.nonterms.length] (fun b => b ≠ O) (fun _ => False) rfl rfl rfl (fun _ hk => hk.elim) HF5.out HO5.out HB5.out HB5.out.size (by have := HL.out; omega) ?_; intro u1 w5 ho hb hg hat; obtain ⟨A9, c9, e9⟩ := Kd.R_slice ho; obtain ⟨L9, hL9⟩ : ∃ L : Nat, ((List.range l).map (Q1 k) ++ [wr.heap.size]).length = L := ⟨_, rfl⟩; rw [hL9] at e9; subst e9; have HL9 := Lib.hid hL9; clear hL9; have c5 := (World.cell?_of_block (a := ⟨O, k, none⟩) (hg.block O HO6.out.1 HO6.out.2)).trans HE5.out.1; have f5 := (World.frozen?_of_block (a := ⟨O, k, none⟩) (hg.block O HO6.out.1 HO6.out.2)).trans HE5.out.2; have GO5 := Aside0.mk ho; have GB5 := Aside0.mk hb; have GG5 := Aside0.mk hg; have GA5 := Aside0.mk hat; clear ho hb hg hat)
          all_goals
            go_wp2
            go_roundw
            case rel => exact ⟨l + 1, _, _, by omega, by go_num, ⟨HP2.out.step (by omega) (by omega) HB3.out HRw5.out GO5.out GB5.out GG5.out GA5.out⟩⟩
            case measure => simp [intOf]; omega
        · obtain rfl : l = tk.length + 1 := by omega
          obtain ⟨P', cP', hP'⟩ := HP2.out.next
          have HP3 := Aside0.mk hP'
          clear hP'
          go_wp2
          go_roundw
          case rel => exact ⟨k + 1, P', cP', Q1, by omega, by go_num, HP3⟩
          case measure => simp [intOf]; omega
    · obtain rfl : k = tk.length + 1 := by omega
      have HD0 := Aside0.mk HP1.out.done
      clear hmkb HP HP1 hk hkn
      have hnf : decide ((tk.length : Int) + 1 ≤ (tk.length : Int)) = false := decide_eq_false (by omega)
      go_wp2
      clear hnf
      go_loopg [11] (2 * dmeas tk.length g.nonterms.length (fun _ _ _ => false) + 1) (fun mm v wr => ∃ (again : Bool) (T : Nat → Nat → Nat → Bool), v = .bool again ∧ Aside0 (DChart w1 tk.length g.nonterms.length O P cP Q T wr) ∧ Aside0 (Sound g.rules tk tk.length g.nonterms.length T) ∧ Aside0 (again = false → XDl g.rules tk T (tk.length + 1) 0 0) ∧ Aside0 (mm = 2 * dmeas tk.length g.nonterms.length T + (if again then 1 else 0)))
      case atStart => exact ⟨true, _, rfl, HD0, ⟨fun i j k _ _ _ h => by cases h⟩, ⟨fun h => by cases h⟩, ⟨rfl⟩⟩
      case round =>
        obtain ⟨again, T0, rfl, HD1, HS0, HX0, HM0⟩ := hrel
        obtain ⟨wo, rfl⟩ : ∃ wo : World, wo = wr := ⟨_, rfl⟩
        cases again
        · have HEx := Lib.hid (XDl.exact HC.out.right HS0.out (HX0.out rfl))
          have k2 := HD1.out.out 0 (by omega)
          have k3 := HD1.out.mid 0 tk.length (by omega) (by omega)
          have k4 := (HD1.out.leaf 0 tk.length (by omega) (by omega)).cell x hx
          have hm := HM.out
          have hT : T0 0 tk.length x = tb (Der g.rules tk x 0 tk.length) := tb_bool (HEx.out 0 tk.length x (by omega) (by omega) hx)
          have HTb := Lib.hid hT
          have hcp := HD1.out.cP1 0 (by omega)
          clear hT
          go_wp2
          go_ret
          exact ⟨ret_bool HTb.out, below_next HB1.out HD1.out.bel⟩
        · go_wp2
          go_loopw [11, 12] (fun a x wr => ∃ (ag : Bool) (i : Nat) (T : Nat → Nat → Nat → Bool), i ≤ tk.length + 1 ∧ a = .bool ag ∧ x = .int .i64 i ∧ Aside0 (DChart w1 tk.length g.nonterms.length O P cP Q T wr) ∧ Aside0 (Sound g.rules tk tk.length g.nonterms.length T) ∧ Aside0 (ag = false → XDl g.rules tk T i 0 0) ∧ Aside0 (dmeas tk.length g.nonterms.length T + (if ag then 1 else 0) ≤ dmeas tk.length g.nonterms.length T0)) (fun _ x _ => tk.length + 1 - (intOf x).toNat)
          case atStart => exact ⟨false, 0, T0, by omega, rfl, rfl, HD1, HS0, ⟨fun _ a b c _ _ _ h => by omega⟩, ⟨by simp⟩⟩
          case round =>
            obtain ⟨ag, i, T, hi, rfl, rfl, HD2, HS2, HX2, HM2⟩ := hrel
            obtain ⟨wi, rfl⟩ : ∃ wo : World, wo = wr := ⟨_, rfl⟩
            by_cases hin : i ≤ tk.length
            · go_wp2
              go_loopw [11, 13] (fun a x wr => ∃ (ag : Bool) (j : Nat) (T : Nat → Nat → Nat → Bool), i ≤ j ∧ j ≤ tk.length + 1 ∧ a = .bool ag ∧ x = .int .i64 j ∧ Aside0 (DChart w1 tk.length g.nonterms.length O P cP Q T wr) ∧ Aside0 (Sound g.rules tk tk.length g.nonterms.length T) ∧ Aside0 (ag = false → XDl g.rules tk T i j 0) ∧ Aside0 (dmeas tk.length g.nonterms.length T + (if ag then 1 else 0) ≤ dmeas tk.length g.nonterms.length T0)) (fun _ x _ => tk.length + 1 - (intOf x).toNat)
              case atStart => exact ⟨ag, i, T, by omega, by omega, rfl, rfl, HD2, HS2, ⟨fun h => (HX2.out h).imp (fun a b c _ _ _ h => by omega)⟩, HM2⟩
              case round =>
                obtain ⟨ag, j, T, hij, hj, rfl, rfl, HD3, HS3, HX3, HM3⟩ := hrel
                obtain ⟨wj, rfl⟩ : ∃ wo : World, wo = wr := ⟨_, rfl⟩
                by_cases hjn : j ≤ tk.length
                · go_wp2
                  go_loopw [11, 14] (fun a x wr => ∃ (ag : Bool) (c : Nat) (T : Nat → Nat → Nat → Bool), c ≤ g.rules.length ∧ a = .bool ag ∧ x = .int .i64 c ∧ Aside0 (DChart w1 tk.length g.nonterms.length O P cP Q T wr) ∧ Aside0 (Sound g.rules tk tk.length g.nonterms.length T) ∧ Aside0 (ag = false → XDl g.rules tk T i j c) ∧ Aside0 (dmeas tk.length g.nonterms.length T + (if ag then 1 else 0) ≤ dmeas tk.length g.nonterms.length T0)) (fun _ x _ => g.rules.length - (intOf x).toNat)
                  case atStart => exact ⟨ag, 0, T, by omega, rfl, rfl, HD3, HS3, HX3, HM3⟩
                  case round =>
                    obtain ⟨ag, c0, T, hc0, rfl, rfl, HD4, HS4, HX4, HM4⟩ := hrel
                    obtain ⟨f0, f1, f2, f3⟩ := blk_cells2 (gblk_keep' HK1.out HD4.out.bel)
                    by_cases hlt : c0 < g.rules.length
                    · obtain ⟨ad, x', B, c, r, rfl, k1, k2, hrc, hr, HDr⟩ := at_rule (Kd.C_below HR.out HD4.out.bel) c0 hlt
                      have hRr : Hid ((x', r) ∈ g.rules) := Lib.hid (by rw [← HDr.out]; exact getD_mem g.rules c0 _ hlt)
                      have hx0 : 0 ≤ x' := (HC.out.right.left hRr.out).1
                      have hxN : x' < g.nonterms.length := (HC.out.right.left hRr.out).2
                      have p2 := HD4.out.out i (by omega)
                      have p3 := HD4.out.mid i j (by omega) hjn
                      have hp4 := (HD4.out.leaf i j (by omega) hjn).cell x'.toNat (by omega)
                      have hp5 := (HD4.out.leaf i j (by omega) hjn).free x'.toNat
                      have hcP := HD4.out.cP1 i (by omega)
                      have hi1 : (0 : Int) ≤ (i : Int) := by omega
                      have hi2 : (i : Int) < (m : Int) := by have := HM.out; omega
                      have hd1 : (0 : Int) ≤ (j : Int) := by omega
                      have hd2 : (j : Int) < (m : Int) := by have := HM.out; omega
                      have hmm := HM.out
                      rw [← hmm] at p2 hcP
                      have HCut := Lib.hid (fun (d : Nat) => cuts_calls hN60 At ct tk hn r B c i j (wr.drewN d) (HD4.out.below (pw_below_drewN (Below.refl _ _) d)) (Kd.C_below HT.out (pw_below_drewN HD4.out.bel d)) (Kd.C_drewN hr d) (fun s hs => by have := HC.out.right.sym hRr.out hs; have := HC.out.size; omega) hrc hij hjn)
                      have HHr := Lib.hid hr
                      rw [← hmm] at HCut
                      clear hmm hr
                      cases hhas : T i j x'.toNat
                      · rw [hhas] at hp4
                        cases hcut : tb (Cut T tk r i j)
                        · rw [hcut] at HCut
                          have hcH := Lib.hid hcut
                          clear hcut
                          go_wp2_with fail
                          go_quiet ((go_at_call 64; exact Calls.quiet_of (HCut.out _)))
                          go_wp2
                          go_roundw
                          case rel => exact ⟨ag, c0 + 1, T, by omega, rfl, by go_num, ⟨HD4.out.below (by first | exact pw_below_drewN (Below.refl _ _) _ | exact below_drew1 (Below.refl _ _) | exact Below.refl _ _)⟩, HS4, ⟨fun h => (HX4.out h).imp (fun a b c h1 h2 h3 h4 => by
                            by_cases e : a = i ∧ b = j ∧ c = c0
                            · obtain ⟨rfl, rfl, rfl⟩ := e
                              refine .inr (.inr ?_)
                              rw [HDr.out]
                              exact fun h => by have := tb_yes h; rw [hcH.out] at this; cases this
                            · exact .inl (by omega))⟩, HM4⟩
                          case measure => simp [intOf]; omega
                        · rw [hcut] at HCut
                          have hcH := Lib.hid hcut
                          have hhH := Lib.hid hhas
                          clear hcut hhas
                          go_wp2_with fail
                          go_quiet ((go_at_call 64; exact Calls.quiet_of (HCut.out _)))
                          obtain ⟨w4, hw4⟩ : ∃ w4, wr.drewN nq = w4 := ⟨_, rfl⟩
                          go_wp2_with fail
                          rw [hw4]
                          have hb4 : Below wr.heap.size wr w4 := by rw [← hw4]; exact pw_below_drewN (Below.refl _ _) _
                          have hkeep : ∀ a v, wr.cell? a = some v → w4.cell? a = some v := fun a v h => (hb4.cell (World.block_lt_of_cell? wr _ h)).trans h
                          have s1 := hkeep _ _ f3
                          have s2 := hkeep _ _ p2
                          have s3 := hkeep _ _ p3
                          have s4 := hkeep _ _ hp4
                          have s5 := hkeep _ _ k1
                          have q5 := (hb4.frozen (p := ⟨Q i j, x'.toNat, none⟩) (World.block_lt_of_cell? wr _ hp4)).trans hp5
                          have HB4 := Aside0.mk hb4
                          clear hkeep hw4 hb4 f0 f1 f2 f3 p2 p3 hp4 k1 k2 hp5
                          go_still_tail 14, (by kernel_rfl)
                          repeat still_step
                          try refine wpStill_nil ?_
                          change wpList _ _ _ _ _ w4.drew
                          obtain ⟨w6, hw6⟩ : ∃ w6, w4.drew = w6 := ⟨_, rfl⟩
                          have hb6 : Below wr.heap.size wr w6 := by rw [← hw6]; exact HB4.out.drew
                          have t3 : w6.cell? ⟨Q i j, x'.toNat, none⟩ = some (.bool false) := by rw [← hw6]; exact s4
                          have t4 : w6.frozen? ⟨Q i j, x'.toNat, none⟩ = false := by rw [← hw6]; exact q5
                          have HC6' := Aside0.mk (HD4.out.below hb6)
                          rw [hw6]
                          clear hw6 hb6 s1 s2 s3 s4 s5 q5
                          go_wp2
                          go_roundw
                          case rel =>
                            refine ⟨true, c0 + 1, upd T i j x'.toNat, by omega, rfl, by go_num, ⟨HC6'.out.put i j x'.toNat (by omega) hjn (by omega)⟩, ⟨?_⟩, ⟨fun h => by cases h⟩, ⟨?_⟩⟩
                            · exact HS4.out.upd ⟨(x', r), hRr.out, (Int.toNat_of_nonneg hx0).symm, Cut_sound HS4.out (fun s hs => (HC.out.right.sym hRr.out hs).1) hjn (tb_iff.1 hcH.out)⟩
                            · have := dmeas_upd (n := tk.length) (N := g.nonterms.length) (T := T) (i := i) (j := j) (k := x'.toNat) (by omega) hjn (by omega) hhH.out
                              have h2 := HM4.out
                              simp only [if_true]
                              omega
                          case measure => simp [intOf]; omega
                      · rw [hhas] at hp4
                        have hhH := Lib.hid hhas
                        clear hhas
                        go_wp2_with fail
                        go_quiet (fail)
                        go_wp2
                        go_roundw
                        case rel => exact ⟨ag, c0 + 1, T, by omega, rfl, by go_num, ⟨HD4.out.below (by first | exact pw_below_drewN (Below.refl _ _) _ | exact below_drew1 (Below.refl _ _) | exact Below.refl _ _)⟩, HS4, ⟨fun h => (HX4.out h).imp (fun a b c h1 h2 h3 h4 => by
                          by_cases e : a = i ∧ b = j ∧ c = c0
                          · obtain ⟨rfl, rfl, rfl⟩ := e
                            refine .inr (.inl ?_)
                            rw [HDr.out]
                            exact hhH.out
                          · exact .inl (by omega))⟩, HM4⟩
                        case measure => simp [intOf]; omega
                    · go_wp2
                      go_roundw
                      case rel => exact ⟨ag, j + 1, T, by omega, by omega, rfl, by go_num, HD4, HS4, ⟨fun h => (HX4.out h).imp (fun a b c h1 h2 h3 h4 => by omega)⟩, HM4⟩
                      case measure => simp [intOf]; omega
                · go_wp2
                  go_roundw
                  case rel => exact ⟨ag, i + 1, T, by omega, rfl, by go_num, HD3, HS3, ⟨fun h => (HX3.out h).imp (fun a b c h1 h2 h3 h4 => by omega)⟩, HM3⟩
                  case measure => simp [intOf]; omega
            · obtain rfl : i = tk.length + 1 := by omega
              go_wp2
              go_roundg (2 * dmeas tk.length g.nonterms.length T + (if ag then 1 else 0))
              case rel => exact ⟨ag, T, rfl, HD2, HS2, HX2, ⟨rfl⟩⟩
              case measure => have h1 := HM2.out; have h2 := HM0.out; simp at h2; cases ag <;> simp at h1 ⊢ <;> omega
end Go.Proofs.YtagcmhnanngfbaaDoor.Hand
/- Contracts of dovetailref03.named and Check: they tell of every grammar what the plain words tell. -/
namespace Go.Proofs.YtagcmhnanngfbaaDoor.Hand
open Go.RowKit Go.Proofs.YtagcmhnanngfbaaDoorW.PrintWords Go.Proofs.YtagcmhnanngfbaaDoorW.PrintMore Go.Proofs.YtagcmhnanngfbaaDoor.Math

theorem named_calls (A : Option Addr) (c : Nat) (l : List ByteArray) (w : World) (hr : Kd.C Kd.string w A l.length l) :
    Quiet 71 #[.slice A l.length c] w (.bool (tb (NamesOk l))) := by
  unfold Quiet
  have hlen := hr.2.1
  have HR := Lib.hid hr
  clear hr
  go_enter Tryd.func71, Tryd.ntmps71
  go_wp2
  go_loopw [3] (fun i wr => ∃ (j : Nat), j ≤ l.length ∧ i = .int .i64 j ∧ Hid (∃ d, wr = w.drewN d) ∧ Hid (∀ i, i < j → NameOk l i)) (fun i _ => l.length - (intOf i).toNat)
  case atStart => exact ⟨0, by omega, rfl, Lib.hid ⟨0, rfl⟩, Lib.hid (fun i hi => by omega)⟩
  case round =>
    obtain ⟨j, hj, rfl, HW, HT⟩ := hrel
    obtain ⟨wo, rfl⟩ : ∃ wo : World, wo = wr := ⟨_, rfl⟩
    have HR1 := Lib.hid (show Kd.C Kd.string wo A l.length l by obtain ⟨d, e⟩ := HW.out; rw [e]; exact Kd.C_drewN HR.out d)
    by_cases hlt : j < l.length
    · obtain ⟨ad, y, rfl, hc, HY⟩ := at_scalar HR1.out j hlt ByteArray.empty
      by_cases h0 : y.size = 0
      · have HE : Hid (tb (NamesOk l) = false) := Lib.hid (tb_no (fun h => (h j hlt).1 (by rw [HY.out]; exact h0)))
        have h0I : ((y.size : Int) == 0) = true := by simp [h0]
        go_wp2
        go_ret
        exact ⟨ret_bool HE.out.symm, HW.out⟩
      · by_cases h1 : 32 < y.size
        · have HE : Hid (tb (NamesOk l) = false) := Lib.hid (tb_no (fun h => by have := (h j hlt).2.1; rw [HY.out] at this; omega))
          go_wp2
          go_ret
          exact ⟨ret_bool HE.out.symm, HW.out⟩
        · have h0I : ((y.size : Int) == 0) = false := by rw [beq_eq_false_iff_ne]; omega
          go_wp2
          go_loopw [4] (fun i wr2 => ∃ (k : Nat), k ≤ j ∧ i = .int .i64 k ∧ Hid (∃ d, wr2 = w.drewN d) ∧ Hid (y ∉ l.take k)) (fun i _ => j - (intOf i).toNat)
          case atStart => exact ⟨0, by omega, rfl, HW, Lib.hid (by simp)⟩
          case round =>
            obtain ⟨k, hk, rfl, HW2, HT2⟩ := hrel
            have HR2 := Lib.hid (show Kd.C Kd.string wr (some ad) l.length l by obtain ⟨d, e⟩ := HW2.out; rw [e]; exact Kd.C_drewN HR.out d)
            by_cases hlt2 : k < j
            · obtain ⟨ad2, y2, e2, hc2, HY2⟩ := at_scalar HR2.out k (by omega) ByteArray.empty
              simp only [Option.some.injEq] at e2
              subst e2
              obtain ⟨ad3, y3, e3, hc3, HY3⟩ := at_scalar HR2.out j hlt ByteArray.empty
              simp only [Option.some.injEq] at e3
              subst e3
              obtain rfl : y3 = y := HY3.out.symm.trans HY.out
              by_cases e : y2 = y3
              · subst e
                have HE : Hid (tb (NamesOk l) = false) := Lib.hid (tb_no (fun h => (h j hlt).2.2 (by
                  rw [HY.out, ← HY2.out]
                  have : (l.take j).getD k ByteArray.empty = l.getD k ByteArray.empty := by
                    rw [List.getD_eq_getElem?_getD, List.getD_eq_getElem?_getD, List.getElem?_take_of_lt hlt2]
                  rw [← this]; exact getD_mem _ _ _ (by simp; omega))))
                go_wp2
                go_quiet (fail)
                go_wp2
                go_ret
                exact ⟨ret_bool HE.out.symm, by obtain ⟨d, e⟩ := HW2.out; exact ⟨_, by rw [e, World.drewN_drewN]⟩⟩
              · have hn3 : (y2.toList == y3.toList) = false := beq_eq_false_iff_ne.mpr (fun h => e (str_inj h))
                have HN := Lib.hid e
                clear e
                go_wp2
                go_quiet (fail)
                go_wp2
                go_roundw
                case rel => exact ⟨k + 1, by omega, by go_num, Lib.hid (by obtain ⟨d, e⟩ := HW2.out; exact ⟨_, by rw [e, World.drewN_drewN]⟩), Lib.hid (by rw [take_snocD l k ByteArray.empty (by omega), List.mem_append, not_or]; exact ⟨HT2.out, by rw [HY2.out, List.mem_singleton]; exact fun h => HN.out h.symm⟩)⟩
                case measure => simp [intOf]; omega
            · obtain rfl : k = j := by omega
              have HN : Hid (NameOk l k) := Lib.hid ⟨by rw [HY.out]; exact h0, by rw [HY.out]; omega, by rw [HY.out]; exact HT2.out⟩
              go_wp2
              go_roundw
              case rel => exact ⟨k + 1, by omega, by go_num, HW2, Lib.hid (fun i hi => by
                rcases Nat.lt_or_ge i k with h | h
                · exact HT.out i h
                · obtain rfl : i = k := by omega
                  exact HN.out)⟩
              case measure => simp [intOf]; omega
    · have HE : Hid (tb (NamesOk l) = true) := Lib.hid (tb_yes (fun i hi => HT.out i (by omega)))
      go_wp2
      go_ret
      exact ⟨ret_bool HE.out.symm, HW.out⟩
theorem gblk_cells {g : Nat} {a b c d : Value} {t : TypeId} {w : World} (h : w.heap[g]? = some (.cells #[a, b, c, d] t (0, 0))) :
    w.cell? ⟨g, 0, none⟩ = some a ∧ w.cell? ⟨g, 1, none⟩ = some b ∧ w.cell? ⟨g, 2, none⟩ = some c ∧ w.cell? ⟨g, 3, none⟩ = some d := by
  refine ⟨?_, ?_, ?_, ?_⟩ <;> simp [World.cell?, h]
theorem gblk_keep {g : Nat} {o : Obj} {w w' : World} (h : w.heap[g]? = some o) (hb : Below w.heap.size w w') : w'.heap[g]? = some o := (hb.block g (Array.getElem?_eq_some_iff.1 h).1).trans h
set_option maxHeartbeats 4000000 in
set_option maxRecDepth 100000 in
theorem rcheck_loop (v : Value) (g : Gr) (w : World) (hv : GramAt w v g) (h1 : ¬ (60 < g.terms.length + g.nonterms.length ∨ 120 < g.rules.length)) (h2 : NamesOk g.terms) (h3 : NamesOk g.nonterms) (h4 : ¬ (g.ax < 0 ∨ (g.nonterms.length : Int) ≤ g.ax)) :
    Calls Tryd.prog 40 #[v] w fun e w' => e = .returned (.tuple #[.int .i64 ((checkN g).1 : Nat), .int .i64 (checkN g).2]) ∧ Below w.heap.size w w' := by
  obtain ⟨AT, cT, AN, cN, AR, cR, rfl, q1, q2, q3, q4, q5, q6⟩ := hv
  have l1 := q4.2.1
  have l2 := q5.2.1
  have l3 := q6.2.1
  obtain ⟨w1, hw1⟩ : ∃ w1, w.alloc (.cells #[.slice AT g.terms.length cT, .slice AN g.nonterms.length cN, .int .i64 g.ax, .slice AR g.rules.length cR] 25) = w1 := ⟨_, rfl⟩
  have hb1 : Below w.heap.size w w1 := by rw [← hw1]; exact below_alloc (Below.refl _ _) _
  have hk1 : w1.heap[w.heap.size]? = some (.cells #[.slice AT g.terms.length cT, .slice AN g.nonterms.length cN, .int .i64 g.ax, .slice AR g.rules.length cR] 25 (0, 0)) := by rw [← hw1]; exact heap_alloc_new w _
  obtain ⟨c0, c1, c2, c3⟩ := gblk_cells hk1
  have HB1 := Lib.hid hb1
  have HK1 := Lib.hid hk1
  have HNT := Lib.hid (named_calls AT cT g.terms w1 (Kd.C_below q4 hb1))
  have HNN := Lib.hid (fun m => named_calls AN cN g.nonterms (w1.drewN m) (Kd.C_drewN (Kd.C_below q5 hb1) m))
  have HR := Lib.hid (Kd.C_below q6 hb1)
  clear hb1 hk1 q4 q5 q6
  have a1 : ¬ 60 < g.terms.length := by omega
  have a2 : ¬ 60 < g.nonterms.length := by omega
  have a3 : ¬ (60 : Int) < (g.terms.length : Int) + g.nonterms.length := by omega
  have a4 : ¬ 120 < g.rules.length := by omega
  have T1 := tb_yes h2
  rw [T1] at HNT
  have T2 := tb_yes h3
  rw [T2] at HNN
  have H : Hid (checkN g = firstBad g.terms.length g.nonterms.length g.rules 0) := Lib.hid (by unfold checkN; rw [if_neg h1, if_neg (by simp [h2, h3]), if_neg h4])
  have a5 : ¬ g.ax < 0 := by omega
  have a6 : ¬ (g.nonterms.length : Int) ≤ g.ax := by omega
  have b1 : ((g.nonterms.length : Int) == 0) = false := by rw [beq_eq_false_iff_ne]; omega
  have hnn : g.nonterms.length ≤ 60 := by omega
  have htt : g.terms.length ≤ 60 := by omega
  clear h1 h2 h3 h4
  go_enter Tryd.func40, Tryd.ntmps40
  go_wp2_with (first
    | (go_at_call 71; have t_ := T1; refine HNT.out.mono ?_; rintro e w' ⟨rfl, n1, rfl⟩; clear T1 t_)
    | (go_at_call 71; refine (HNN.out _).mono ?_; rintro e w' ⟨rfl, n2, rfl⟩))
  clear c0 c1 c2 c3
  go_loopw [6] (fun i wr => ∃ (j : Nat), j ≤ g.rules.length ∧ i = .int .i64 j ∧ Aside0 (Below w.heap.size w wr) ∧ Aside0 (wr.heap[w.heap.size]? = some (.cells #[.slice AT g.terms.length cT, .slice AN g.nonterms.length cN, .int .i64 g.ax, .slice AR g.rules.length cR] 25 (0, 0))) ∧ Aside0 (Below w1.heap.size w1 wr) ∧ Hid (∀ k, k < j → ruleN g.terms.length g.nonterms.length (g.rules.getD k (0, [])) = 0)) (fun i _ => g.rules.length - (intOf i).toNat)
  case atStart => exact ⟨0, by omega, rfl, ⟨pw_below_drewN HB1.out _⟩, ⟨HK1.out⟩, ⟨pw_below_drewN (Below.refl _ _) _⟩, Lib.hid (fun k hk => by omega)⟩
  case round =>
    obtain ⟨j, hj, rfl, HBw, HK, HB2, HT⟩ := hrel
    obtain ⟨wo, rfl⟩ : ∃ wo : World, wo = wr := ⟨_, rfl⟩
    obtain ⟨c0, c1, c2, c3⟩ := gblk_cells HK.out
    by_cases hlt : j < g.rules.length
    · obtain ⟨ad, x, B, c, r, rfl, k1, k2, hrc, hr, HD⟩ := at_rule (Kd.C_below HR.out HB2.out) j hlt
      have hsz : w.heap.size < wo.heap.size := (Array.getElem?_eq_some_iff.1 HK.out).1
      have hrl := hr.2.1
      have hb3 := below_alloc (Below.refl wo.heap.size wo) (.cells #[.int .i64 x, .slice B r.length c] 56)
      have HRr := Lib.hid (Kd.C_below hr hb3)
      have HB3 := Lib.hid hb3
      clear hr hb3
      by_cases hr1 : 32 < r.length
      · have HF : Hid (checkN g = (3, (j : Int))) := Lib.hid (by rw [H.out, firstBad_at _ _ _ j HT.out hlt (by rw [HD.out]; simp [ruleN, hr1]), HD.out]; simp [ruleN, hr1])
        go_wp2
        go_ret2
        exact ⟨by rw [HF.out]; rfl, below_next HBw.out HB3.out⟩
      · by_cases hr2 : x < 0
        · have HF : Hid (checkN g = (1, (j : Int))) := Lib.hid (by rw [H.out, firstBad_at _ _ _ j HT.out hlt (by rw [HD.out]; simp [ruleN, hr1, hr2]), HD.out]; simp [ruleN, hr1, hr2])
          go_wp2
          go_ret2
          exact ⟨by rw [HF.out]; rfl, below_next HBw.out HB3.out⟩
        · by_cases hr3 : (g.nonterms.length : Int) ≤ x
          · have HF : Hid (checkN g = (1, (j : Int))) := Lib.hid (by rw [H.out, firstBad_at _ _ _ j HT.out hlt (by rw [HD.out]; simp [ruleN, hr1, hr3]), HD.out]; simp [ruleN, hr1, hr3])
            go_wp2
            go_ret2
            exact ⟨by rw [HF.out]; rfl, below_next HBw.out HB3.out⟩
          · obtain ⟨w2, hw2⟩ : ∃ w2, wo.alloc (.cells #[.int .i64 x, .slice B r.length c] 56) = w2 := ⟨_, rfl⟩
            have r1 : w2.cell? ⟨wo.heap.size, 1, none⟩ = some (.slice B r.length c) := by rw [← hw2]; simp [go_sem]
            have r0 : w2.cell? ⟨wo.heap.size, 0, none⟩ = some (.int .i64 x) := by rw [← hw2]; simp [go_sem]
            rw [hw2] at HB3 HRr
            have HK2 := Lib.hid (gblk_keep HK.out HB3.out)
            obtain ⟨d0, d1, d2, d3⟩ := gblk_cells HK2.out
            go_wp2
            clear hw2 r0 d0 d1 d2 d3 c0 c1 c2 c3
            go_loopw [8] (fun i wr => ∃ (k : Nat), k ≤ r.length ∧ i = .int .i64 k ∧ Hid (∃ d, wr = w2.drewN d) ∧ Hid ((r.take k).any (symBad g.terms.length g.nonterms.length) = false)) (fun i _ => r.length - (intOf i).toNat)
            case atStart => exact ⟨0, by omega, rfl, Lib.hid ⟨0, rfl⟩, Lib.hid (by simp)⟩
            case round =>
              obtain ⟨k, hk, rfl, HW2, HT2⟩ := hrel
              have r2 : wr.cell? ⟨wo.heap.size, 1, none⟩ = some (.slice B r.length c) := by obtain ⟨d, e⟩ := HW2.out; rw [e, World.cell?_drewN]; exact r1
              have HB4 : Hid (Below w2.heap.size w2 wr) := Lib.hid (by obtain ⟨d, e⟩ := HW2.out; rw [e]; exact pw_below_drewN (Below.refl _ _) _)
              by_cases hlt2 : k < r.length
              · obtain ⟨ad2, y, rfl, hc2, HY⟩ := at_scalar (Kd.C_below HRr.out HB4.out) k hlt2 0
                by_cases s1 : (g.terms.length : Int) ≤ y
                · have hany : r.any (symBad g.terms.length g.nonterms.length) = true := List.any_eq_true.2 ⟨y, by rw [← HY.out]; exact getD_mem r k 0 hlt2, by simp [symBad, s1]⟩
                  have HF : Hid (checkN g = (1, (j : Int))) := Lib.hid (by rw [H.out, firstBad_at _ _ _ j HT.out hlt (by rw [HD.out]; simp only [ruleN, hr1, hany]; simp), HD.out]; simp only [ruleN, hr1, hany]; simp)
                  clear hany
                  go_wp2
                  go_ret2
                  exact ⟨by rw [HF.out]; rfl, below_next (below_next HBw.out HB3.out) HB4.out⟩
                · by_cases s2 : y < -(g.nonterms.length : Int)
                  · have hany : r.any (symBad g.terms.length g.nonterms.length) = true := List.any_eq_true.2 ⟨y, by rw [← HY.out]; exact getD_mem r k 0 hlt2, by simp [symBad, s2]⟩
                    have HF : Hid (checkN g = (1, (j : Int))) := Lib.hid (by rw [H.out, firstBad_at _ _ _ j HT.out hlt (by rw [HD.out]; simp only [ruleN, hr1, hany]; simp), HD.out]; simp only [ruleN, hr1, hany]; simp)
                    clear hany
                    go_wp2
                    go_ret2
                    exact ⟨by rw [HF.out]; rfl, below_next (below_next HBw.out HB3.out) HB4.out⟩
                  · have HS : Hid ((r.take (k + 1)).any (symBad g.terms.length g.nonterms.length) = false) := Lib.hid (by rw [any_take_snoc r _ k hlt2, HT2.out, HY.out]; simp [symBad]; omega)
                    go_wp2
                    go_roundw
                    case rel => exact ⟨k + 1, by omega, by go_num, by first | exact HW2 | exact Lib.hid (by obtain ⟨d, e⟩ := HW2.out; exact ⟨_, by rw [e, World.drewN_drewN]⟩), HS⟩
                    case measure => simp [intOf]; omega
              · have HZ : Hid (ruleN g.terms.length g.nonterms.length (x, r) = 0) := Lib.hid (by
                  have h := HT2.out
                  rw [List.take_of_length_le (by omega)] at h
                  unfold ruleN; rw [if_neg hr1, if_neg (by simp only [h]; simp; omega)])
                have HB5 := Lib.hid (below_next HB3.out HB4.out)
                go_wp2
                go_roundw
                case rel => exact ⟨j + 1, by omega, by go_num, ⟨below_next HBw.out HB5.out⟩, ⟨gblk_keep HK.out HB5.out⟩, ⟨below_next HB2.out HB5.out⟩, Lib.hid (fun k hk => by
                  rcases Nat.lt_or_ge k j with h | h
                  · exact HT.out k h
                  · obtain rfl : k = j := by omega
                    rw [HD.out]; exact HZ.out)⟩
                case measure => simp [intOf]; omega
    · have HF : Hid (checkN g = (0, -1)) := Lib.hid (by rw [H.out]; exact firstBad_none _ _ _ (fun k hk => HT.out k (by omega)))
      go_wp2
      go_ret2
      exact ⟨by rw [HF.out]; rfl, HBw.out⟩
set_option maxHeartbeats 1600000 in
set_option maxRecDepth 100000 in
theorem rcheck_calls (v : Value) (g : Gr) (w : World) (hv : GramAt w v g) :
    Calls Tryd.prog 40 #[v] w fun e w' => e = .returned (.tuple #[.int .i64 ((checkN g).1 : Nat), .int .i64 (checkN g).2]) ∧ Below w.heap.size w w' := by
  have HV := Lib.hid hv
  obtain ⟨AT, cT, AN, cN, AR, cR, rfl, q1, q2, q3, q4, q5, q6⟩ := hv
  have l1 := q4.2.1
  have l2 := q5.2.1
  have l3 := q6.2.1
  obtain ⟨w1, hw1⟩ : ∃ w1, w.alloc (.cells #[.slice AT g.terms.length cT, .slice AN g.nonterms.length cN, .int .i64 g.ax, .slice AR g.rules.length cR] 25) = w1 := ⟨_, rfl⟩
  have hb1 : Below w.heap.size w w1 := by rw [← hw1]; exact below_alloc (Below.refl _ _) _
  have hk1 : w1.heap[w.heap.size]? = some (.cells #[.slice AT g.terms.length cT, .slice AN g.nonterms.length cN, .int .i64 g.ax, .slice AR g.rules.length cR] 25 (0, 0)) := by rw [← hw1]; exact heap_alloc_new w _
  obtain ⟨c0, c1, c2, c3⟩ := gblk_cells hk1
  have HB1 := Lib.hid hb1
  have HK1 := Lib.hid hk1
  have HNT := Lib.hid (named_calls AT cT g.terms w1 (Kd.C_below q4 hb1))
  have HNN := Lib.hid (fun m => named_calls AN cN g.nonterms (w1.drewN m) (Kd.C_drewN (Kd.C_below q5 hb1) m))
  have HR := Lib.hid (Kd.C_below q6 hb1)
  clear hb1 hk1 q4 q5 q6
  by_cases h1 : 60 < g.terms.length + g.nonterms.length ∨ 120 < g.rules.length
  · have H : Hid (checkN g = (3, -1)) := Lib.hid (by unfold checkN; rw [if_pos h1])
    by_cases a1 : 60 < g.terms.length
    · go_enter Tryd.func40, Tryd.ntmps40
      go_wp2
      go_ret2
      exact ⟨by rw [H.out]; rfl, HB1.out⟩
    · by_cases a2 : 60 < g.nonterms.length
      · go_enter Tryd.func40, Tryd.ntmps40
        go_wp2
        go_ret2
        exact ⟨by rw [H.out]; rfl, HB1.out⟩
      · by_cases a3 : (60 : Int) < (g.terms.length : Int) + g.nonterms.length
        · go_enter Tryd.func40, Tryd.ntmps40
          go_wp2
          go_ret2
          exact ⟨by rw [H.out]; rfl, HB1.out⟩
        · have a4 : 120 < g.rules.length := by omega
          go_enter Tryd.func40, Tryd.ntmps40
          go_wp2
          go_ret2
          exact ⟨by rw [H.out]; rfl, HB1.out⟩
  · have a1 : ¬ 60 < g.terms.length := by omega
    have a2 : ¬ 60 < g.nonterms.length := by omega
    have a3 : ¬ (60 : Int) < (g.terms.length : Int) + g.nonterms.length := by omega
    have a4 : ¬ 120 < g.rules.length := by omega
    by_cases h2 : NamesOk g.terms
    · have T1 := tb_yes h2
      rw [T1] at HNT
      by_cases h3 : NamesOk g.nonterms
      · have T2 := tb_yes h3
        rw [T2] at HNN
        by_cases h4 : g.ax < 0 ∨ (g.nonterms.length : Int) ≤ g.ax
        · have H : Hid (checkN g = (1, -1)) := Lib.hid (by unfold checkN; rw [if_neg h1, if_neg (by simp [h2, h3]), if_pos h4])
          by_cases b0 : g.nonterms.length = 0
          · have b1 : ((g.nonterms.length : Int) == 0) = true := by simp [b0]
            clear b0 h1 h2 h3 h4
            go_enter Tryd.func40, Tryd.ntmps40
            go_wp2_with (first
              | (go_at_call 71; have t_ := T1; refine HNT.out.mono ?_; rintro e w' ⟨rfl, n1, rfl⟩; clear T1 t_)
              | (go_at_call 71; refine (HNN.out _).mono ?_; rintro e w' ⟨rfl, n2, rfl⟩))
            go_ret2
            exact ⟨by rw [H.out]; rfl, pw_below_drewN HB1.out _⟩
          · have b1 : ((g.nonterms.length : Int) == 0) = false := by rw [beq_eq_false_iff_ne]; omega
            by_cases a5 : g.ax < 0
            all_goals
              go_enter Tryd.func40, Tryd.ntmps40
              go_wp2_with (first
                | (go_at_call 71; have t_ := T1; refine HNT.out.mono ?_; rintro e w' ⟨rfl, n1, rfl⟩; clear T1 t_)
                | (go_at_call 71; refine (HNN.out _).mono ?_; rintro e w' ⟨rfl, n2, rfl⟩))
              go_ret2
              exact ⟨by rw [H.out]; rfl, pw_below_drewN HB1.out _⟩
        · exact rcheck_loop _ g w HV.out h1 h2 h3 h4
      · have T2 := tb_no h3
        rw [T2] at HNN
        have H : Hid (checkN g = (10, -1)) := Lib.hid (by unfold checkN; rw [if_neg h1, if_pos (by simp [h3])])
        go_enter Tryd.func40, Tryd.ntmps40
        go_wp2_with (first
          | (go_at_call 71; have t_ := T1; refine HNT.out.mono ?_; rintro e w' ⟨rfl, n1, rfl⟩; clear T1 t_)
          | (go_at_call 71; refine (HNN.out _).mono ?_; rintro e w' ⟨rfl, n2, rfl⟩))
        go_ret2
        exact ⟨by rw [H.out]; rfl, pw_below_drewN HB1.out _⟩
    · have T1 := tb_no h2
      rw [T1] at HNT
      have H : Hid (checkN g = (10, -1)) := Lib.hid (by unfold checkN; rw [if_neg h1, if_pos (by simp [h2])])
      go_enter Tryd.func40, Tryd.ntmps40
      go_wp2_with (go_at_call 71; refine HNT.out.mono ?_; rintro e w' ⟨rfl, n1, rfl⟩)
      go_ret2
      exact ⟨by rw [H.out]; rfl, pw_below_drewN HB1.out _⟩
end Go.Proofs.YtagcmhnanngfbaaDoor.Hand
/- Contract of dovetailref07.Shortest. -/
namespace Go.Proofs.YtagcmhnanngfbaaDoor.Hand
open Go.RowKit Go.Proofs.YtagcmhnanngfbaaDoorW.PrintWords Go.Proofs.YtagcmhnanngfbaaDoorW.PrintMore Go.Proofs.YtagcmhnanngfbaaDoor.Math

theorem Row.setL {w : World} {g N x : Nat} {L : Nat → Int} (h : Row w g N (fun q => .int .i64 (L q))) (hx : x < N) (s : Int) : Row (w.setCell ⟨g, x, none⟩ (.int .i64 s)) g N (fun q => .int .i64 (Hand.setL L x s q)) :=
  (h.set x hx (.int .i64 s)).ext (fun q hq => by
    by_cases e : q = x
    · rw [if_pos e, e, setL_same]
    · rw [if_neg e, setL_other e])
def RShortRes (w0 : World) (g : Gr) (e : Ending) (w' : World) : Prop :=
  (e = .returned (.tuple #[.slice none 0 0, .int .i64 ((checkN g).1 : Nat)]) ∧ ¬ (checkN g).1 = 0 ∧ Below w0.heap.size w0 w') ∨
  (∃ gm L, e = .returned (.tuple #[.slice (some ⟨gm, 0, none⟩) g.nonterms.length g.nonterms.length, .int .i64 0]) ∧ (checkN g).1 = 0 ∧ Row w' gm g.nonterms.length (fun q => .int .i64 (L q)) ∧ LenIs g.rules g.nonterms.length L ∧ w0.heap.size ≤ gm ∧ Below w0.heap.size w0 w')
set_option maxHeartbeats 2000000 in
set_option maxRecDepth 20000 in
theorem rshortest_calls (v : Value) (g : Gr) (w : World) (hv : GramAt w v g) :
    Calls Tryd.prog 18 #[v] w fun e w' => RShortRes w g e w' := by
  have HV := Lib.hid hv
  obtain ⟨AT, cT, AN, cN, AR, cR, rfl, q1, q2, q3, q4, q5, q6⟩ := hv
  have hlr := q6.2.1
  have l2 := q5.2.1
  obtain ⟨w1, hw1⟩ : ∃ w1, w.alloc (.cells #[.slice AT g.terms.length cT, .slice AN g.nonterms.length cN, .int .i64 g.ax, .slice AR g.rules.length cR] 25) = w1 := ⟨_, rfl⟩
  have hb1 : Below w.heap.size w w1 := by rw [← hw1]; exact below_alloc (Below.refl _ _) _
  have hk1 : w1.heap[w.heap.size]? = some (.cells #[.slice AT g.terms.length cT, .slice AN g.nonterms.length cN, .int .i64 g.ax, .slice AR g.rules.length cR] 25 (0, 0)) := by rw [← hw1]; exact heap_alloc_new w _
  obtain ⟨c0, c1, c2, c3⟩ := blk_cells2 hk1
  have HB1 := Lib.hid hb1
  have HK1 := Lib.hid hk1
  have HCk := Lib.hid (rcheck_calls _ g w1 (HV.out.below hb1))
  have HR := Lib.hid (Kd.C_below q6 hb1)
  clear hb1 hk1 q4 q5 q6
  by_cases hok : (checkN g).1 = 0
  · have HC := Lib.hid (GOk.of hok)
    have HOK := Lib.hid hok
    rw [hok] at HCk
    clear hok
    have hN : g.nonterms.length ≤ 60 := by have := HC.out.size; omega
    have hr120 := HC.out.rules
    have hmk : ∀ W : World, (Instr.makeSlice 38 (.int .i64 ((g.nonterms.length : Nat) : Int)) (.int .i64 ((g.nonterms.length : Nat) : Int))).run Tryd.prog W = .ok (.slice (some ⟨W.heap.size, 0, none⟩) g.nonterms.length g.nonterms.length) (W.alloc (.cells (madeCells #[.int .i64 0] g.nonterms.length) 3)) :=
      print_make_of (P := Tryd.prog) 38 3 (.int .i64 0) 8 rfl infoInt rfl (by decide) g.nonterms.length (by omega)
    go_enter Tryd.func18, Tryd.ntmps18
    go_wp2_with (go_at_call 40; refine HCk.out.mono ?_; rintro e w2 ⟨rfl, hb2⟩; have HB2 := Lib.hid hb2; obtain ⟨d0, d1, d2, d3⟩ := blk_cells2 (gblk_keep' HK1.out hb2); clear hb2 c0 c1 c2 c3)
    obtain ⟨w3, hw3⟩ : ∃ w3, w2.alloc (.cells (madeCells #[.int .i64 0] g.nonterms.length) 3) = w3 := ⟨_, rfl⟩
    rw [hw3]
    have HRow3 := Aside0.mk (show Row w3 w2.heap.size g.nonterms.length (fun q => .int .i64 (if q < 0 then -1 else 0)) by rw [← hw3]; exact (Row.made w2 _ _ _).ext (fun q _ => by simp))
    have HB3 := Aside0.mk (show Below w1.heap.size w1 w3 by rw [← hw3]; exact below_next HB2.out (below_alloc (Below.refl _ _) _))
    obtain ⟨gm, hgm⟩ : ∃ gm, w2.heap.size = gm := ⟨_, rfl⟩
    rw [hgm] at HRow3 ⊢
    have HGm : Hid (w1.heap.size ≤ gm) := Lib.hid (by rw [← hgm]; exact HB2.out.size)
    clear hw3 hmk hgm d0 d1 d2 d3 hw1
    go_loopw [7] (fun x wr => ∃ i : Nat, i ≤ g.nonterms.length ∧ x = .int .i64 i ∧ Aside0 (Row wr gm g.nonterms.length (fun q => .int .i64 (if q < i then -1 else 0))) ∧ Aside0 (Below w1.heap.size w1 wr)) (fun x _ => g.nonterms.length - (intOf x).toNat)
    case atStart => exact ⟨0, by omega, rfl, HRow3, HB3⟩
    case round =>
      obtain ⟨i, hi, rfl, HA, HBx⟩ := hrel
      by_cases hlt : i < g.nonterms.length
      · have ha := HA.out.cell i hlt
        have hf := HA.out.free i
        go_wp2
        go_roundw
        case rel => exact ⟨i + 1, by omega, by go_num, ⟨(HA.out.set i hlt (.int .i64 (-1))).ext (fun q hq => by
          by_cases e : q = i
          · subst e; simp
          · rw [if_neg e]
            have : q < i + 1 ↔ q < i := by omega
            simp only [this])⟩, ⟨HBx.out.setCell HGm.out _⟩⟩
        case measure => simp [intOf]; omega
      · obtain rfl : i = g.nonterms.length := by omega
        have HRow := Aside0.mk (HA.out.ext (f' := fun q => .int .i64 ((fun _ => (-1 : Int)) q)) (fun q hq => by simp [hq]))
        clear hi hlt
        go_wp2
        clear HA
        go_loopg [8] (2 * lmeas g.nonterms.length (fun _ => -1) + 1) (fun m v wr => ∃ (again : Bool) (L : Nat → Int), v = .bool again ∧ Aside0 (Row wr gm g.nonterms.length (fun q => .int .i64 (L q))) ∧ Aside0 (SoundL g.rules g.nonterms.length L) ∧ Aside0 (again = false → ∀ i, i < g.rules.length → CRl g.rules L i) ∧ Aside0 (Below w1.heap.size w1 wr) ∧ Aside0 (m = 2 * lmeas g.nonterms.length L + (if again then 1 else 0)))
        case atStart => exact ⟨true, fun _ => -1, rfl, HRow, ⟨SoundL.start⟩, ⟨fun h => by cases h⟩, HBx, ⟨rfl⟩⟩
        case round =>
          obtain ⟨again, L0, rfl, HRow0, HS0, HX0, HB0, HM0⟩ := hrel
          obtain ⟨wo, rfl⟩ : ∃ wo : World, wo = wr := ⟨_, rfl⟩
          cases again
          · go_wp2
            go_ret2
            exact .inr ⟨gm, L0, rfl, HOK.out, HRow0.out, LenIs.of HS0.out (HX0.out trivial), Nat.le_trans HB1.out.size HGm.out, below_next HB1.out HB0.out⟩
          · go_wp2
            go_loopw [8, 9] (fun a x wr => ∃ (ag : Bool) (i : Nat) (L : Nat → Int), i ≤ g.rules.length ∧ a = .bool ag ∧ x = .int .i64 i ∧ Aside0 (Row wr gm g.nonterms.length (fun q => .int .i64 (L q))) ∧ Aside0 (SoundL g.rules g.nonterms.length L) ∧ Aside0 (ag = false → ∀ j, j < i → CRl g.rules L j) ∧ Aside0 (Below w1.heap.size w1 wr) ∧ Aside0 (lmeas g.nonterms.length L + (if ag then 1 else 0) ≤ lmeas g.nonterms.length L0)) (fun _ x _ => g.rules.length - (intOf x).toNat)
            case atStart => exact ⟨false, 0, L0, by omega, rfl, rfl, HRow0, HS0, ⟨fun _ j h => by omega⟩, HB0, ⟨by simp⟩⟩
            case round =>
              obtain ⟨ag, i, L, hi, rfl, rfl, HRowL, HSL, HXL, HBL, HML⟩ := hrel
              obtain ⟨wi, rfl⟩ : ∃ wo : World, wo = wr := ⟨_, rfl⟩
              obtain ⟨c0, c1, c2, c3⟩ := blk_cells2 (gblk_keep' HK1.out HBL.out)
              by_cases hlt : i < g.rules.length
              · obtain ⟨ad, x, B, c, r, rfl, k1, k2, hrc, hr, HD⟩ := at_rule (Kd.C_below HR.out HBL.out) i hlt
                have hRr : Hid ((x, r) ∈ g.rules) := Lib.hid (by rw [← HD.out]; exact getD_mem g.rules i _ hlt)
                have hx0 : 0 ≤ x := (HC.out.right.left hRr.out).1
                have hxN : x < g.nonterms.length := (HC.out.right.left hRr.out).2
                obtain ⟨w4, hw4⟩ : ∃ w4, wi.alloc (.cells #[.int .i64 x, .slice B r.length c] 56) = w4 := ⟨_, rfl⟩
                have hb4 : Below wi.heap.size wi w4 := by rw [← hw4]; exact below_alloc (Below.refl _ _) _
                have r0 : w4.cell? ⟨wi.heap.size, 0, none⟩ = some (.int .i64 x) := by rw [← hw4]; simp [go_sem]
                have r1 : w4.cell? ⟨wi.heap.size, 1, none⟩ = some (.slice B r.length c) := by rw [← hw4]; simp [go_sem]
                have HB4 := Aside0.mk (below_next HBL.out hb4)
                have HRow4 := Aside0.mk (HRowL.out.below hb4)
                have HR4 := Lib.hid (Kd.C_below hr hb4)
                have hlrr := hr.2.1
                have HSy := Lib.hid (fun s (hs : s ∈ r) => HC.out.right.sym hRr.out hs)
                have HT60 := Lib.hid HC.out.size
                have HCR : Hid (CRl g.rules L i ↔ (0 ≤ sumL L r → 0 ≤ L x.toNat ∧ L x.toNat ≤ sumL L r)) := Lib.hid (by unfold CRl; rw [HD.out])
                have hcl := HRow4.out.cell x.toNat (by omega)
                have hfl := HRow4.out.free x.toNat
                clear hr hb4
                go_wp2
                clear hw4 c0 c1 c2 c3
                go_loopw [11, 12] (fun a x' wr => ∃ (k : Nat) (s : Int), k ≤ r.length ∧ a = .int .i64 s ∧ x' = .int .i64 k ∧ Hid (0 ≤ s → s = sumL L (r.take k)) ∧ Hid (s < 0 → sumL L r < 0) ∧ -1 ≤ s ∧ s ≤ 65537 ∧ wr = w4) (fun _ x' _ => r.length - (intOf x').toNat)
                case atStart => exact ⟨0, 0, by omega, rfl, rfl, Lib.hid (fun _ => rfl), Lib.hid (fun h => by omega), by omega, by omega, by first | rfl | trivial⟩
                case round =>
                  obtain ⟨k, s, hk, rfl, rfl, HSum, HNeg, hs0, hs1, rfl⟩ := hrel
                  by_cases hsn : s < 0
                  · have hs2 : ¬ 0 ≤ s := by omega
                    have HE : Hid (sumL L r < 0) := Lib.hid (HNeg.out hsn)
                    by_cases hkt : k < r.length
                    all_goals
                      go_wp2
                      go_roundw
                      case rel => exact ⟨ag, i + 1, L, by omega, rfl, by go_num, HRow4, HSL, ⟨fun h j hj => by
                        rcases Nat.lt_or_ge j i with h' | h'
                        · exact HXL.out h j h'
                        · obtain rfl : j = i := by omega
                          exact HCR.out.2 (fun h => absurd h (by have := HE.out; omega))⟩, HB4, HML⟩
                      case measure => simp [intOf]; omega
                  · have hs2 : 0 ≤ s := by omega
                    have HSu : Hid (s = sumL L (r.take k)) := Lib.hid (HSum.out hs2)
                    by_cases hkt : k < r.length
                    · obtain ⟨ad2, y, rfl, hcy, HY⟩ := at_scalar HR4.out k hkt 0
                      have HYm : Hid (y ∈ r) := Lib.hid (by rw [← HY.out]; exact getD_mem r k 0 hkt)
                      have hy1 : -(g.nonterms.length : Int) ≤ y := (HSy.out y HYm.out).1
                      have hy2 : y < 4611686018427387904 := by have := (HSy.out y HYm.out).2; have := HT60.out; omega
                      have HSn : Hid (sumL L (r.take (k + 1)) = stepL L s y) := Lib.hid (by rw [take_snocD r k 0 hkt, HY.out, sumL_snoc, HSu.out])
                      by_cases h0 : y < 0
                      · have e1 : 0 ≤ -1 - y := by omega
                        have e2 : -1 - y < (g.nonterms.length : Int) := by omega
                        have hcm := HRow4.out.cell (-1 - y).toNat (by omega)
                        obtain ⟨n, hn⟩ : ∃ n, L (-1 - y).toNat = n := ⟨_, rfl⟩
                        rw [hn] at hcm
                        have hnb : n ≤ 65537 := by rw [← hn]; exact (HSL.out _ (by omega)).2.1
                        have HN := Lib.hid hn
                        clear hn
                        by_cases hneg : n < 0
                        · have HE : Hid (sumL L r < 0) := Lib.hid (sumL_split r (k + 1) (by rw [HSn.out]; unfold stepL; rw [if_neg (by omega), if_pos h0, HN.out, if_pos hneg]; omega))
                          go_wp2
                          go_roundw
                          case rel => exact ⟨k + 1, -1, by omega, rfl, by go_num, Lib.hid (fun h => by omega), Lib.hid (fun _ => HE.out), by omega, by omega, by first | rfl | trivial⟩
                          case measure => simp [intOf]; omega
                        · have HE : Hid (stepL L s y = if s + n < 65537 then s + n else 65537) := Lib.hid (stepL_ok hs2 (by rw [if_pos h0, HN.out]) (by omega))
                          have HE2 : Hid ((if 65537 < s + n then 65537 else s + n) = sumL L (r.take (k + 1))) := Lib.hid (by rw [HSn.out, HE.out]; split <;> split <;> omega)
                          go_wp2
                          go_roundw
                          case rel => exact ⟨k + 1, _, by omega, rfl, by go_num, Lib.hid (fun _ => HE2.out), Lib.hid (fun h => by split at h <;> omega), by split <;> omega, by split <;> omega, by first | rfl | trivial⟩
                          case measure => simp [intOf]; omega
                      · have HE : Hid (stepL L s y = if s + 1 < 65537 then s + 1 else 65537) := Lib.hid (stepL_ok hs2 (by rw [if_neg h0]) (by omega))
                        have HE2 : Hid ((if 65537 < s + 1 then 65537 else s + 1) = sumL L (r.take (k + 1))) := Lib.hid (by rw [HSn.out, HE.out]; split <;> split <;> omega)
                        go_wp2
                        go_roundw
                        case rel => exact ⟨k + 1, _, by omega, rfl, by go_num, Lib.hid (fun _ => HE2.out), Lib.hid (fun h => by split at h <;> omega), by split <;> omega, by split <;> omega, by first | rfl | trivial⟩
                        case measure => simp [intOf]; omega
                    · have HE : Hid (s = sumL L r) := Lib.hid (by rw [HSu.out, List.take_of_length_le (by omega)])
                      obtain ⟨n, hn⟩ : ∃ n, L x.toNat = n := ⟨_, rfl⟩
                      rw [hn] at hcl
                      have HN := Lib.hid hn
                      clear hn
                      by_cases hup : n < 0 ∨ s < n
                      · have hrow : Hid (∀ W : World, Row W gm g.nonterms.length (fun q => .int .i64 (L q)) → Row (W.setCell ⟨gm, x.toNat, none⟩ (.int .i64 s)) gm g.nonterms.length (fun q => .int .i64 (setL L x.toNat s q))) := Lib.hid (fun W hW => Row.setL hW (by omega) s)
                        have hfin : Hid (SoundL g.rules g.nonterms.length (setL L x.toNat s) ∧ lmeas g.nonterms.length (setL L x.toNat s) < lmeas g.nonterms.length L) := Lib.hid ⟨by
                          have := HSL.out.set (r := (x, r)) hRr.out (fun z hz => (HSy.out z hz).1) hx0 (by rw [← HE.out]; exact hs2)
                          rwa [← HE.out] at this, lmeas_lt (by omega) hs2 hs1 (by rw [HN.out]; exact hup)⟩
                        have hcase : n < 0 ∨ (¬ n < 0 ∧ s < n) := by omega
                        clear hup
                        rcases hcase with hcase | ⟨hcase, hcase2⟩
                        all_goals
                          go_wp2
                          go_roundw
                          case rel => exact ⟨true, i + 1, setL L x.toNat s, by omega, rfl, by go_num, ⟨hrow.out _ HRow4.out⟩, ⟨hfin.out.1⟩, ⟨fun h => by cases h⟩, ⟨HB4.out.setCell HGm.out _⟩, ⟨by have := HML.out; have := hfin.out.2; simp only [if_true]; omega⟩⟩
                          case measure => simp [intOf]; omega
                      · have h1 : ¬ n < 0 := by omega
                        have h2 : ¬ s < n := by omega
                        clear hup
                        go_wp2
                        go_roundw
                        case rel => exact ⟨ag, i + 1, L, by omega, rfl, by go_num, HRow4, HSL, ⟨fun h j hj => by
                          rcases Nat.lt_or_ge j i with h' | h'
                          · exact HXL.out h j h'
                          · obtain rfl : j = i := by omega
                            exact HCR.out.2 (fun _ => by rw [HN.out, ← HE.out]; omega)⟩, HB4, HML⟩
                        case measure => simp [intOf]; omega
              · obtain rfl : i = g.rules.length := by omega
                go_wp2
                go_roundg (2 * lmeas g.nonterms.length L + (if ag then 1 else 0))
                case rel => exact ⟨ag, L, rfl, HRowL, HSL, HXL, HBL, ⟨rfl⟩⟩
                case measure => have h1 := HML.out; have h2 := HM0.out; simp at h2; cases ag <;> simp at h1 ⊢ <;> omega
  · have HOK := Lib.hid hok
    have hk0 : (((checkN g).1 : Int) == 0) = false := by rw [beq_eq_false_iff_ne]; omega
    clear hok
    go_enter Tryd.func18, Tryd.ntmps18
    go_wp2_with (go_at_call 40; refine HCk.out.mono ?_; rintro e w2 ⟨rfl, hb2⟩; have HB2 := Lib.hid hb2; clear hb2)
    go_ret2
    exact .inl ⟨rfl, HOK.out, below_next HB1.out HB2.out⟩
end Go.Proofs.YtagcmhnanngfbaaDoor.Hand
/- Contract of dovetailref07.Word. -/
namespace Go.Proofs.YtagcmhnanngfbaaDoor.Hand
open Go.RowKit Go.Proofs.YtagcmhnanngfbaaDoorW.PrintWords Go.Proofs.YtagcmhnanngfbaaDoorW.PrintMore Go.Proofs.YtagcmhnanngfbaaDoor.Math

/-- What Word tells: the row, or the error's number. -/
def WordTold (g : Gr) (x : Int) (L : Nat → Int) (w' : World) (v : Value) (k : Int) : Prop :=
  (L x.toNat < 0 ∧ v = .slice none 0 0 ∧ k = 15) ∨ (65536 < L x.toNat ∧ v = .slice none 0 0 ∧ k = 12) ∨
  (0 ≤ L x.toNat ∧ L x.toNat ≤ 65536 ∧ k = 0 ∧ ∃ ad c u, WordIs g.rules x.toNat u ∧ v = .slice (some ad) u.length c ∧ Kd.C (Kd.int .i64) w' (some ad) u.length u)
def RWordRes (w0 : World) (g : Gr) (x : Int) (e : Ending) (w' : World) : Prop :=
  ∃ v k, e = .returned (.tuple #[v, .int .i64 k]) ∧ Below w0.heap.size w0 w' ∧
    ((¬ (checkN g).1 = 0 ∧ v = .slice none 0 0 ∧ k = ((checkN g).1 : Nat)) ∨ ((checkN g).1 = 0 ∧ (x < 0 ∨ (g.nonterms.length : Int) ≤ x) ∧ v = .slice none 0 0 ∧ k = 1) ∨
     ((checkN g).1 = 0 ∧ 0 ≤ x ∧ x < g.nonterms.length ∧ ∃ L, LenIs g.rules g.nonterms.length L ∧ WordTold g x L w' v k))
theorem infoInts : (Tryd.prog.info? 38).map (fun i => (i.zero, i.size, i.bytes)) = some (some (.slice none 0 0), 1, 24) := by kernel_rfl
set_option maxHeartbeats 4000000 in
set_option maxRecDepth 100000 in
theorem rword_calls (v : Value) (g : Gr) (x0 : Int) (w : World) (hv : GramAt w v g) :
    Calls Tryd.prog 20 #[v, .int .i64 x0] w fun e w' => RWordRes w g x0 e w' := by
  have HV := Lib.hid hv
  obtain ⟨AT, cT, AN, cN, AR, cR, rfl, q1, q2, q3, q4, q5, q6⟩ := hv
  have hlr := q6.2.1
  have l2 := q5.2.1
  obtain ⟨w1, hw1⟩ : ∃ w1, w.alloc (.cells #[.slice AT g.terms.length cT, .slice AN g.nonterms.length cN, .int .i64 g.ax, .slice AR g.rules.length cR] 25) = w1 := ⟨_, rfl⟩
  have hb1 : Below w.heap.size w w1 := by rw [← hw1]; exact below_alloc (Below.refl _ _) _
  have hk1 : w1.heap[w.heap.size]? = some (.cells #[.slice AT g.terms.length cT, .slice AN g.nonterms.length cN, .int .i64 g.ax, .slice AR g.rules.length cR] 25 (0, 0)) := by rw [← hw1]; exact heap_alloc_new w _
  obtain ⟨c0, c1, c2, c3⟩ := blk_cells2 hk1
  have HB1 := Lib.hid hb1
  have HK1 := Lib.hid hk1
  have HM := Lib.hid (rshortest_calls _ g w1 (HV.out.below hb1))
  have HR := Lib.hid (Kd.C_below q6 hb1)
  clear hb1 hk1 q4 q5 q6
  by_cases hok : (checkN g).1 = 0
  · have HC := Lib.hid (GOk.of hok)
    have HM2 : Hid (Calls Tryd.prog 18 _ w1 fun e w' => ∃ gl L, e = .returned (.tuple #[.slice (some ⟨gl, 0, none⟩) g.nonterms.length g.nonterms.length, .int .i64 0]) ∧ Row w' gl g.nonterms.length (fun q => .int .i64 (L q)) ∧ LenIs g.rules g.nonterms.length L ∧ Below w1.heap.size w1 w') := Lib.hid (HM.out.mono (by
      rintro e w' (⟨h1, h2, _⟩ | ⟨gl, L, h1, h2, h3, h4, h5, h6⟩)
      · exact absurd hok h2
      · exact ⟨gl, L, h1, h3, h4, h6⟩))
    have HOK := Lib.hid hok
    clear hok HM
    have hN : g.nonterms.length ≤ 60 := by have := HC.out.size; omega
    by_cases hx : x0 < 0 ∨ (g.nonterms.length : Int) ≤ x0
    · have hcase : x0 < 0 ∨ (¬ x0 < 0 ∧ (g.nonterms.length : Int) ≤ x0) := by omega
      have HX := Lib.hid hx
      clear hx
      rcases hcase with hcase | ⟨hcase, hcase2⟩
      all_goals
        go_enter Tryd.func20, Tryd.ntmps20
        go_wp2_with (go_at_call 18; refine HM2.out.mono ?_; rintro e w2 ⟨gl, L, rfl, hrow, hL, hb2⟩; have HB2 := Lib.hid hb2; clear hrow hL hb2)
        go_ret2
        exact ⟨_, _, rfl, below_next HB1.out HB2.out, .inr (.inl ⟨HOK.out, HX.out, rfl, rfl⟩)⟩
    · have hx0 : 0 ≤ x0 := by omega
      have hxN : x0 < (g.nonterms.length : Int) := by omega
      clear hx
      have hr120 := HC.out.rules
      have hmk : ∀ W : World, (Instr.makeSlice 61 (.int .i64 ((g.nonterms.length : Nat) : Int)) (.int .i64 ((g.nonterms.length : Nat) : Int))).run Tryd.prog W = .ok (.slice (some ⟨W.heap.size, 0, none⟩) g.nonterms.length g.nonterms.length) (W.alloc (.cells (madeCells #[.slice none 0 0] g.nonterms.length) 38)) :=
        print_make_of (P := Tryd.prog) 61 38 (.slice none 0 0) 24 rfl infoInts rfl (by decide) g.nonterms.length (by omega)
      go_enter Tryd.func20, Tryd.ntmps20
      go_upto_region 6 with (go_at_call 18; refine HM2.out.mono ?_; rintro e w2 ⟨gl, L, rfl, hrow, hL, hb2⟩; have HRow2 := Lib.hid hrow; have HL := Lib.hid hL; have HB2 := Lib.hid hb2; clear hrow hL hb2)
      have hcell := HRow2.out.cell x0.toNat (by omega)
      obtain ⟨n0, hn0⟩ : ∃ n, L x0.toNat = n := ⟨_, rfl⟩
      rw [hn0] at hcell
      have HN0 := Lib.hid hn0
      clear hn0 hw1 c0 c1 c2 c3
      by_cases hneg : n0 < 0
      · go_wp2
        go_ret2
        exact ⟨_, _, rfl, below_next HB1.out HB2.out, .inr (.inr ⟨HOK.out, hx0, hxN, L, HL.out, .inl ⟨by rw [HN0.out]; exact hneg, rfl, rfl⟩⟩)⟩
      · by_cases hbig : 65536 < n0
        · go_wp2
          go_ret2
          exact ⟨_, _, rfl, below_next HB1.out HB2.out, .inr (.inr ⟨HOK.out, hx0, hxN, L, HL.out, .inr (.inl ⟨by rw [HN0.out]; exact hbig, rfl, rfl⟩)⟩)⟩
        · go_wp2
          obtain ⟨w3, hw3⟩ : ∃ w3, w2.alloc (.cells (madeCells #[.slice none 0 0] g.nonterms.length) 38) = w3 := ⟨_, rfl⟩
          rw [hw3]
          have HRows3 := Aside0.mk (show RowsAt w3 w2.heap.size g.nonterms.length (fun _ => .slice none 0 0) (fun _ => none) from ⟨by rw [← hw3]; exact Row.made w2 _ _ _, fun k hk => rfl⟩)
          have HB3 := Aside0.mk (show Below w1.heap.size w1 w3 by rw [← hw3]; exact below_next HB2.out (below_alloc (Below.refl _ _) _))
          obtain ⟨gr, hgr⟩ : ∃ gr, w2.heap.size = gr := ⟨_, rfl⟩
          rw [hgr] at HRows3 ⊢
          have HGr : Hid (w1.heap.size ≤ gr) := Lib.hid (by rw [← hgr]; exact HB2.out.size)
          clear hw3 hmk hgr hcell
          go_loopg [9] (2 * wmeas g.nonterms.length 65568 (fun _ => none) + 1) (fun m v wr => ∃ (again : Bool) (V : Nat → Value) (W : Nat → Option (List Int)), v = .bool again ∧ Aside0 (RowsAt wr gr g.nonterms.length V W) ∧ Aside0 (SoundW g.rules g.nonterms.length 65568 W) ∧ Aside0 (again = false → ∀ i, i < g.rules.length → CRw g.rules W i) ∧ Aside0 (Below w1.heap.size w1 wr) ∧ Aside0 (m = 2 * wmeas g.nonterms.length 65568 W + (if again then 1 else 0)))
          case atStart => exact ⟨true, _, fun _ => none, rfl, HRows3, ⟨fun k hk w h => by cases h⟩, ⟨fun h => by cases h⟩, HB3, ⟨rfl⟩⟩
          case round =>
            obtain ⟨again, V0, W0, rfl, HRw0, HS0, HX0, HB0, HM0⟩ := hrel
            obtain ⟨wo, rfl⟩ : ∃ wo : World, wo = wr := ⟨_, rfl⟩
            cases again
            · have hd0 := HL.out.1 x0.toNat (by omega)
              have HLeast : Hid (∃ u, W0 x0.toNat = some u ∧ WordIs g.rules x0.toNat u) := Lib.hid (by
                obtain ⟨u, hu, he⟩ := hd0.2.2 (by rw [HN0.out]; exact hneg)
                rw [HN0.out] at he
                exact CRw.least HS0.out (HX0.out rfl) (by omega) hu (by unfold capL at he; split at he <;> omega))
              obtain ⟨u, hu, hwi⟩ := HLeast.out
              have hl := HRw0.out.lst x0.toNat (by omega)
              have hcv := HRw0.out.row.cell x0.toNat (by omega)
              rw [hu] at hl
              obtain ⟨ad, c, e1, e2, e3, e4⟩ := hl
              rw [e1] at hcv
              have HWi := Lib.hid hwi
              have HCv := Lib.hid e3
              clear hd0 hu hwi e1 e2 e3 e4
              go_wp2
              go_ret2
              exact ⟨_, _, rfl, below_next HB1.out HB0.out, .inr (.inr ⟨HOK.out, hx0, hxN, L, HL.out, .inr (.inr ⟨by rw [HN0.out]; omega, by rw [HN0.out]; omega, rfl, ad, c, u, HWi.out, rfl, HCv.out⟩)⟩)⟩
            · go_wp2
              go_loopw [9, 10] (fun a x wr => ∃ (ag : Bool) (i : Nat) (V : Nat → Value) (W : Nat → Option (List Int)), i ≤ g.rules.length ∧ a = .bool ag ∧ x = .int .i64 i ∧ Aside0 (RowsAt wr gr g.nonterms.length V W) ∧ Aside0 (SoundW g.rules g.nonterms.length 65568 W) ∧ Aside0 (ag = false → ∀ j, j < i → CRw g.rules W j) ∧ Aside0 (Below w1.heap.size w1 wr) ∧ Aside0 (wmeas g.nonterms.length 65568 W + (if ag then 1 else 0) ≤ wmeas g.nonterms.length 65568 W0)) (fun _ x _ => g.rules.length - (intOf x).toNat)
              case atStart => exact ⟨false, 0, V0, W0, by omega, rfl, rfl, HRw0, HS0, ⟨fun _ j h => by omega⟩, HB0, ⟨by simp⟩⟩
              case round =>
                obtain ⟨ag, i, V, W, hi, rfl, rfl, HRw, HSW, HXW, HBW, HMW⟩ := hrel
                obtain ⟨wi, rfl⟩ : ∃ wo : World, wo = wr := ⟨_, rfl⟩
                obtain ⟨c0, c1, c2, c3⟩ := blk_cells2 (gblk_keep' HK1.out HBW.out)
                by_cases hlt : i < g.rules.length
                · obtain ⟨ad, x, B, c, r, rfl, k1, k2, hrc, hr, HD⟩ := at_rule (Kd.C_below HR.out HBW.out) i hlt
                  have hRr : Hid ((x, r) ∈ g.rules) := Lib.hid (by rw [← HD.out]; exact getD_mem g.rules i _ hlt)
                  have hx0' : 0 ≤ x := (HC.out.right.left hRr.out).1
                  have hxN' : x < g.nonterms.length := (HC.out.right.left hRr.out).2
                  have hr32 : r.length ≤ 32 := ruleN_len (HC.out.right (x, r) hRr.out)
                  obtain ⟨wb, hwb⟩ : ∃ w4, wi.alloc (.cells #[.int .i64 x, .slice B r.length c] 56) = w4 := ⟨_, rfl⟩
                  have hb4 : Below wi.heap.size wi wb := by rw [← hwb]; exact below_alloc (Below.refl _ _) _
                  have r0 : wb.cell? ⟨wi.heap.size, 0, none⟩ = some (.int .i64 x) := by rw [← hwb]; simp [go_sem]
                  have r1 : wb.cell? ⟨wi.heap.size, 1, none⟩ = some (.slice B r.length c) := by rw [← hwb]; simp [go_sem]
                  have hsz : wb.heap.size = wi.heap.size + 1 := by rw [← hwb]; exact World.size_alloc _ _
                  have HSz := Lib.hid hsz
                  have HB4 := Aside0.mk (below_next HBW.out hb4)
                  have HRw4 := Aside0.mk (HRw.out.below hb4)
                  have HR4 := Lib.hid (Kd.C_below hr hb4)
                  have HGb : Hid (gr < wb.heap.size) := Lib.hid HRw4.out.row.lt
                  have HSy := Lib.hid (fun s (hs : s ∈ r) => HC.out.right.sym hRr.out hs)
                  have HT60 := Lib.hid HC.out.size
                  obtain ⟨w5, hw5⟩ : ∃ w5, wb.alloc (.cells #[] 3) = w5 := ⟨_, rfl⟩
                  have HMade5 := Aside0.mk (show Made wb (.slice (some ⟨wb.heap.size, 0, none⟩) ([] : List Int).length 0) [] w5 from ⟨⟨_, 0, rfl⟩, by rw [← hw5]; exact Hand.R_lit (enc := Value.int .i64) (h1 := fun _ => rfl) 3 wb.heap.size wb [] (Nat.le_refl _) (by unfold maxLen; simp), by rw [← hw5]; exact below_alloc (Below.refl _ _) _⟩)
                  clear hr hb4 hsz
                  go_wp2
                  clear hwb hw5 c0 c1 c2 c3 k1 k2
                  have HCR : Hid (CRw g.rules W i ↔ ∀ q, bldA W (some []) r = some q → q.length ≤ 65536 → ∃ u, W x.toNat = some u ∧ sle u q) := Lib.hid (by unfold CRw; rw [HD.out])
                  have hw5v : (Value.slice (some (⟨wb.heap.size, 0, none⟩ : Addr)) ([] : List Int).length 0) = .slice (some ⟨wb.heap.size, 0, none⟩) 0 0 := rfl
                  rw [hw5v] at HMade5
                  clear hw5v
                  go_loopw [12, 13] (fun y x' wr => ∃ (u : Value) (k : Nat) (o : Option (List Int)), u = y ∧ k ≤ r.length ∧ x' = .int .i64 k ∧ Hid (o = bldA W (some []) (r.take k)) ∧ Aside0 (Below wb.heap.size wb wr) ∧ Aside0 ((o = none ∧ u = .slice none 0 0) ∨ ∃ p, o = some p ∧ p.length ≤ 65536 + k ∧ Made wb u p wr)) (fun _ x' _ => r.length - (intOf x').toNat)
                  case atStart => exact ⟨_, 0, some [], rfl, by omega, rfl, Lib.hid rfl, ⟨HMade5.out.bel⟩, ⟨.inr ⟨[], rfl, by simp, HMade5.out⟩⟩⟩
                  case round =>
                    obtain ⟨u, k, o, rfl, hk, rfl, HO, HBb, HDis⟩ := hrel
                    obtain ⟨wk, rfl⟩ : ∃ wo : World, wo = wr := ⟨_, rfl⟩
                    have r0' := (HBb.out.cell (World.block_lt_of_cell? _ _ r0)).trans r0
                    have r1' := (HBb.out.cell (World.block_lt_of_cell? _ _ r1)).trans r1
                    have HBk := Lib.hid (below_next HB4.out HBb.out)
                    have HRk := Lib.hid (HRw4.out.below HBb.out)
                    rcases HDis.out with ⟨rfl, rfl⟩ | ⟨p, rfl, hpl, hmade⟩
                    · have HCl : Hid (∀ q, bldA W (some []) r = some q → q.length ≤ 65536 → ∃ u, W x.toNat = some u ∧ sle u q) := Lib.hid (fun q hq => by rw [bldA_split r k HO.out.symm] at hq; cases hq)
                      by_cases hkt : k < r.length
                      all_goals
                        go_wp2
                        go_roundw
                        case rel => exact ⟨ag, i + 1, V, W, by omega, rfl, by go_num, ⟨HRk.out⟩, HSW, ⟨fun h j hj => by
                        rcases Nat.lt_or_ge j i with h' | h'
                        · exact HXW.out h j h'
                        · obtain rfl : j = i := by omega
                          exact HCR.out.2 HCl.out⟩, ⟨HBk.out⟩, HMW⟩
                        case measure => simp [intOf]; omega
                    · have HMd := Aside0.mk hmade
                      obtain ⟨ad3, c3', hu⟩ := hmade.form
                      clear hmade HDis
                      subst hu
                      by_cases hkt : k < r.length
                      · obtain ⟨ad2, y, rfl, hcy, HY⟩ := at_scalar (Kd.C_below HR4.out HBb.out) k hkt 0
                        have HYm : Hid (y ∈ r) := Lib.hid (by rw [← HY.out]; exact getD_mem r k 0 hkt)
                        have hy1 : -(g.nonterms.length : Int) ≤ y := (HSy.out y HYm.out).1
                        have hy2 : y < 4611686018427387904 := by have := (HSy.out y HYm.out).2; have := HT60.out; omega
                        have HSn : Hid (bldA W (some []) (r.take (k + 1)) = buildR W (some p) y) := Lib.hid (by rw [take_snocD r k 0 hkt, HY.out, bldA_snoc, ← HO.out])
                        have hp65 : p.length ≤ 65568 := by omega
                        by_cases h0 : 0 ≤ y
                        · have HE : Hid (some (p ++ [y]) = bldA W (some []) (r.take (k + 1))) := Lib.hid (by rw [HSn.out]; simp [buildR, h0])
                          go_wp2_with (first
                            | ((with_reducible refine gate_builtin (b := .append) (xs := #[.tmp 76, .tmp 78]) rfl ?_); at_builtin; refine Kd.R_append (Kd.int .i64) (w0 := wb) wb.heap.size rfl (.tmp 76) (.tmp 78) 38 3 (.int .i64 0) 8 rfl Tryd.underlying38 infoInt rfl (by decide) (by omega) (.slice (some ad3) p.length c3') p y [.int .i64 y] (fun _ => True) (fun _ => False) rfl rfl rfl (fun _ hk => hk.elim) (fun _ _ => trivial) HMd.out.own HMd.out.bel HMd.out.bel.size (by have := hp65; omega) ?_; intro v1 w6 ho hb hg hat; have HM6 := Aside0.mk (Made.next HMd.out ho hb hat); clear ho hb hg hat))
                          go_roundw
                          case rel => exact ⟨v1, k + 1, _, rfl, by omega, by go_num, HE, ⟨HM6.out.bel⟩, ⟨.inr ⟨_, rfl, by simp; omega, HM6.out⟩⟩⟩
                          case measure => simp [intOf]; omega
                        · have e1 : 0 ≤ -1 - y := by omega
                          have e2 : -1 - y < (g.nonterms.length : Int) := by omega
                          have hcm := HRk.out.row.cell (-1 - y).toNat (by omega)
                          have hl := HRk.out.lst (-1 - y).toNat (by omega)
                          cases hW : W (-1 - y).toNat with
                          | none =>
                            rw [hW] at hl
                            have hl' : V (-1 - y).toNat = .slice none 0 0 := hl
                            rw [hl'] at hcm
                            have HE : Hid (none = bldA W (some []) (r.take (k + 1))) := Lib.hid (by rw [HSn.out]; simp [buildR, h0, hW])
                            clear hl hl' hW
                            go_wp2
                            go_roundw
                            case rel => exact ⟨_, k + 1, none, rfl, by omega, by go_num, HE, HBb, ⟨.inl ⟨rfl, rfl⟩⟩⟩
                            case measure => simp [intOf]; omega
                          | some uw =>
                            rw [hW] at hl
                            obtain ⟨ad4, c4, f1, f2, f3, f4⟩ := hl
                            rw [f1] at hcm
                            have HCu := Lib.hid f3
                            have hul : uw.length ≤ 65568 := (HSW.out _ (by omega) uw hW).2
                            by_cases hlen : p.length + uw.length > 65536
                            · have HE : Hid (none = bldA W (some []) (r.take (k + 1))) := Lib.hid (by rw [HSn.out]; simp [buildR, h0, hW, hlen])
                              have hlI : (65536 : Int) < (p.length : Int) + (uw.length : Int) := by omega
                              clear f1 f2 f3 f4 hW hlen
                              go_wp2
                              go_roundw
                              case rel => exact ⟨_, k + 1, none, rfl, by omega, by go_num, HE, HBb, ⟨.inl ⟨rfl, rfl⟩⟩⟩
                              case measure => simp [intOf]; omega
                            · have HE : Hid (some (p ++ uw) = bldA W (some []) (r.take (k + 1))) := Lib.hid (by rw [HSn.out]; simp [buildR, h0, hW, hlen])
                              have hlI : ¬ (65536 : Int) < (p.length : Int) + (uw.length : Int) := by omega
                              have HLn : Hid ((p ++ uw).length ≤ 65536 + (k + 1)) := Lib.hid (by rw [List.length_append]; omega)
                              have hsum : (p.length + uw.length) * 8 ≤ 140737488355328 := by omega
                              clear f1 f2 f3 f4 hW hlen
                              go_wp2_with (first
                                | ((with_reducible refine gate_builtin (b := .append) (xs := #[.tmp 98, .tmp 103]) rfl ?_); at_builtin; refine Kd.R_append_rows (Kd.int .i64) (w0 := wb) wb.heap.size rfl (.tmp 98) (.tmp 103) 38 3 (.int .i64 0) 8 rfl Tryd.underlying38 infoInt rfl (by decide) (by omega) (.slice (some ad3) p.length c3') p uw _ _ _ (fun _ => True) (fun _ => False) rfl rfl HMd.out.own HCu.out (fun _ _ h => h) (fun _ h => h.elim) (fun _ _ => trivial) HMd.out.bel HMd.out.bel.size (by have := hsum; omega) ?_; intro v1 w6 ho hb hg hat; have HM6 := Aside0.mk (Made.next HMd.out ho hb hat); clear ho hb hg hat))
                              go_roundw
                              case rel => exact ⟨v1, k + 1, _, rfl, by omega, by go_num, HE, ⟨HM6.out.bel⟩, ⟨.inr ⟨_, rfl, HLn.out, HM6.out⟩⟩⟩
                              case measure => simp [intOf]; omega
                      · have HQ : Hid (bldA W (some []) r = some p) := Lib.hid (by rw [HO.out, List.take_of_length_le (by omega)])
                        have hcx := HRk.out.row.cell x.toNat (by omega)
                        have hfx := HRk.out.row.free x.toNat
                        have hl := HRk.out.lst x.toNat (by omega)
                        have HPD : Hid ((∀ z ∈ p, 0 ≤ z ∧ z < 64) ∧ p.length ≤ 65568) := Lib.hid (by
                          obtain ⟨w', hw', e⟩ := bldA_sound HSW.out (fun z hz => (HSy.out z hz).1) HQ.out
                          rw [List.nil_append] at e
                          subst e
                          exact ⟨WD.digits (k := x.toNat) HC.out.right (by have := HT60.out; omega) ⟨(x, r), hRr.out, (Int.toNat_of_nonneg hx0').symm, hw'⟩, by omega⟩)
                        have HLi := Lib.hid (HMd.out.list HGb.out)
                        have HPut : Hid (SoundW g.rules g.nonterms.length 65568 (setW W x.toNat p)) := Lib.hid (HSW.out.set (r := (x, r)) hRr.out (fun z hz => (HSy.out z hz).1) hx0' HQ.out (by show 65536 + r.length ≤ 65568; omega))
                        cases hW : W x.toNat with
                        | none =>
                          rw [hW] at hl
                          have hl' : V x.toNat = .slice none 0 0 := hl
                          rw [hl'] at hcx
                          have HMs : Hid (wmeas g.nonterms.length 65568 (setW W x.toNat p) < wmeas g.nonterms.length 65568 W) := Lib.hid (wmeas_lt (by omega) (by rw [hW]; exact rankW_lt HPD.out.1 HPD.out.2 (fun u h => by cases h)))
                          clear hl hl' hW
                          go_wp2
                          go_roundw
                          case rel => exact ⟨true, i + 1, _, setW W x.toNat p, by omega, rfl, by go_num, ⟨HRk.out.put (by omega) HLi.out⟩, ⟨HPut.out⟩, ⟨fun h => by cases h⟩, ⟨HBk.out.setCell HGr.out _⟩, ⟨by have := HMW.out; have := HMs.out; simp only [if_true]; omega⟩⟩
                          case measure => simp [intOf]; omega
                        | some uw =>
                          rw [hW] at hl
                          obtain ⟨ad4, c4, f1, f2, f3, f4⟩ := hl
                          rw [f1] at hcx
                          have HAh := Lib.hid (ahead_calls (some ad3) (some ad4) c3' c4 p uw wk (Kd.R_reads' HMd.out.own).2.2 f3)
                          have HUD : Hid ((∀ z ∈ uw, 0 ≤ z ∧ z < 64) ∧ uw.length ≤ 65568) := Lib.hid (by
                            have := HSW.out _ (by omega) uw hW
                            exact ⟨this.1.digits HC.out.right (by have := HT60.out; omega), this.2⟩)
                          have HWx := Lib.hid hW
                          clear f1 f2 f3 f4 hW
                          cases hb : tb (p.length < uw.length ∨ p.length = uw.length ∧ cmpL p uw < 0)
                          · rw [hb] at HAh
                            have HCl : Hid (∀ q, bldA W (some []) r = some q → q.length ≤ 65536 → ∃ u, W x.toNat = some u ∧ sle u q) := Lib.hid (fun q hq _ => by
                              rw [HQ.out] at hq
                              obtain rfl := Option.some.inj hq
                              refine ⟨uw, HWx.out, ?_⟩
                              have hn : ¬ (p.length < uw.length ∨ p.length = uw.length ∧ cmpL p uw < 0) := fun h => by rw [tb_yes h] at hb; cases hb
                              by_cases h1 : uw.length < p.length
                              · exact .inl h1
                              · have h2 : p.length = uw.length := by
                                  have := fun h => hn (.inl h)
                                  omega
                                refine .inr ⟨h2.symm, ?_⟩
                                rw [cmpL_neg]
                                have h3 : ¬ cmpL p uw < 0 := fun h => hn (.inr ⟨h2, h⟩)
                                omega)
                            clear hb
                            go_wp2_with (go_at_call 51; refine HAh.out.mono ?_; rintro e w' ⟨rfl, n1, rfl⟩)
                            go_roundw
                            case rel => exact ⟨ag, i + 1, V, W, by omega, rfl, by go_num, ⟨HRk.out.below (pw_below_drewN (Below.refl _ _) _)⟩, HSW, ⟨fun h j hj => by
                        rcases Nat.lt_or_ge j i with h' | h'
                        · exact HXW.out h j h'
                        · obtain rfl : j = i := by omega
                          exact HCR.out.2 HCl.out⟩, ⟨pw_below_drewN HBk.out _⟩, HMW⟩
                            case measure => simp [intOf]; omega
                          · rw [hb] at HAh
                            have HMs : Hid (wmeas g.nonterms.length 65568 (setW W x.toNat p) < wmeas g.nonterms.length 65568 W) := Lib.hid (wmeas_lt (by omega) (by
                              rw [HWx.out]
                              exact rankW_lt HPD.out.1 HPD.out.2 (fun u h => by obtain rfl := Option.some.inj h; exact ⟨HUD.out.1, HUD.out.2, tb_iff.1 hb⟩)))
                            clear hb
                            go_wp2_with (go_at_call 51; refine HAh.out.mono ?_; rintro e w' ⟨rfl, n1, rfl⟩)
                            go_roundw
                            case rel => exact ⟨true, i + 1, _, setW W x.toNat p, by omega, rfl, by go_num, ⟨(HRk.out.below (pw_below_drewN (Below.refl _ _) _)).put (by omega) (HLi.out.below (pw_below_drewN (Below.refl _ _) _))⟩, ⟨HPut.out⟩, ⟨fun h => by cases h⟩, ⟨(pw_below_drewN HBk.out _).setCell HGr.out _⟩, ⟨by have := HMW.out; have := HMs.out; simp only [if_true]; omega⟩⟩
                            case measure => simp [intOf]; omega
                · obtain rfl : i = g.rules.length := by omega
                  go_wp2
                  go_roundg (2 * wmeas g.nonterms.length 65568 W + (if ag then 1 else 0))
                  case rel => exact ⟨ag, V, W, rfl, HRw, HSW, HXW, HBW, ⟨rfl⟩⟩
                  case measure => have h1 := HMW.out; have h2 := HM0.out; simp at h2; cases ag <;> simp at h1 ⊢ <;> omega
  · have HM2 : Hid (Calls Tryd.prog 18 _ w1 fun e w' => e = .returned (.tuple #[.slice none 0 0, .int .i64 ((checkN g).1 : Nat)]) ∧ Below w1.heap.size w1 w') := Lib.hid (HM.out.mono (by
      rintro e w' (⟨h1, _, h3⟩ | ⟨gl, L, h1, h2, _⟩)
      · exact ⟨h1, h3⟩
      · exact absurd h2 hok))
    have HOK := Lib.hid hok
    have hk0 : (((checkN g).1 : Int) == 0) = false := by rw [beq_eq_false_iff_ne]; omega
    clear hok HM
    go_enter Tryd.func20, Tryd.ntmps20
    go_wp2_with (go_at_call 18; refine HM2.out.mono ?_; rintro e w2 ⟨rfl, hb2⟩; have HB2 := Lib.hid hb2; clear hb2)
    go_ret2
    exact ⟨_, _, rfl, below_next HB1.out HB2.out, .inl ⟨HOK.out, rfl, rfl⟩⟩
end Go.Proofs.YtagcmhnanngfbaaDoor.Hand
/- Contracts of dovetailkit: are two lists the same? -/
namespace Go.Proofs.YtagcmhnanngfbaaDoor.Hand
open Go.RowKit Go.Proofs.YtagcmhnanngfbaaDoorW.PrintWords Go.Proofs.YtagcmhnanngfbaaDoorW.PrintMore Go.Proofs.YtagcmhnanngfbaaDoor.Math

/-- Are two lists the same? -/
theorem ints_calls (A B : Option Addr) (c d : Nat) (l m : List Int) (w : World) (hr : Kd.C (Kd.int .i64) w A l.length l) (hq : Kd.C (Kd.int .i64) w B m.length m) : Quiet 21 #[.slice A l.length c, .slice B m.length d] w (.bool (decide (l = m))) := by
  unfold Quiet
  have hlen := hr.2.1
  have hlen2 := hq.2.1
  have HR := Lib.hid hr
  have HQ := Lib.hid hq
  clear hr hq
  by_cases hl : l.length = m.length
  · have hlI : ((l.length : Int) == (m.length : Int)) = true := by simp [hl]
    have HL := Lib.hid hl
    go_enter Tryd.func21, Tryd.ntmps21
    go_wp2
    go_loopw [5] (fun i wr => ∃ (j d : Nat), j ≤ l.length ∧ i = .int .i64 j ∧ wr = w.drewN d ∧ Hid (l.take j = m.take j)) (fun i _ => l.length - (intOf i).toNat)
    case atStart => exact ⟨0, 0, by omega, rfl, rfl, Lib.hid (by simp)⟩
    case round =>
      obtain ⟨j, d, hj, rfl, rfl, HT⟩ := hrel
      by_cases hlt : j < l.length
      · obtain ⟨ad, y, rfl, hc, HY⟩ := at_scalar HR.out j hlt 0
        obtain ⟨ad2, y2, rfl, hc2, HY2⟩ := at_scalar HQ.out j (by omega) 0
        have hlt2 : j < m.length := by omega
        by_cases e : y = y2
        · subst e
          go_wp2
          go_quiet (fail)
          go_wp2
          go_roundw
          case rel => exact ⟨j + 1, _, by omega, by go_num, rfl, Lib.hid (by rw [take_snocD l j 0 hlt, take_snocD m j 0 hlt2, HT.out, HY.out, HY2.out])⟩
          case measure => simp [intOf]; omega
        · have HE : Hid (decide (l = m) = false) := Lib.hid (decide_eq_false (fun h => e (by rw [← HY.out, ← HY2.out, h])))
          have HN := Lib.hid e
          have hn : ((y : Int) == y2) = false := by simpa using e
          clear e
          go_wp2
          go_quiet (fail)
          go_wp2
          go_ret
          exact ⟨ret_bool HE.out.symm, _, World.drewN_drewN _ _ _⟩
      · have HE : Hid (decide (l = m) = true) := Lib.hid (decide_eq_true (by
          have := HT.out
          rwa [List.take_of_length_le (by omega), List.take_of_length_le (by have := HL.out; omega)] at this))
        go_wp2
        go_ret
        exact ⟨ret_bool HE.out.symm, _, rfl⟩
  · have HE : Hid (decide (l = m) = false) := Lib.hid (decide_eq_false (fun h => hl (by rw [h])))
    have hlI : ((l.length : Int) == (m.length : Int)) = false := by simp; omega
    have hlN : decide (l.length = m.length) = false := by simp [hl]
    have HL := Lib.hid hl
    clear hl
    go_enter Tryd.func21, Tryd.ntmps21
    go_wp2
    go_ret
    exact ⟨ret_bool HE.out.symm, 0, rfl⟩
/-- Are two lists the same? -/
theorem kstrings_calls (A B : Option Addr) (c d : Nat) (l m : List ByteArray) (w : World) (hr : Kd.C Kd.string w A l.length l) (hq : Kd.C Kd.string w B m.length m) : Quiet 62 #[.slice A l.length c, .slice B m.length d] w (.bool (decide (l = m))) := by
  unfold Quiet
  have hlen := hr.2.1
  have hlen2 := hq.2.1
  have HR := Lib.hid hr
  have HQ := Lib.hid hq
  clear hr hq
  by_cases hl : l.length = m.length
  · have hlI : ((l.length : Int) == (m.length : Int)) = true := by simp [hl]
    have HL := Lib.hid hl
    go_enter Tryd.func62, Tryd.ntmps62
    go_wp2
    go_loopw [5] (fun i wr => ∃ (j d : Nat), j ≤ l.length ∧ i = .int .i64 j ∧ wr = w.drewN d ∧ Hid (l.take j = m.take j)) (fun i _ => l.length - (intOf i).toNat)
    case atStart => exact ⟨0, 0, by omega, rfl, rfl, Lib.hid (by simp)⟩
    case round =>
      obtain ⟨j, d, hj, rfl, rfl, HT⟩ := hrel
      by_cases hlt : j < l.length
      · obtain ⟨ad, y, rfl, hc, HY⟩ := at_scalar HR.out j hlt ByteArray.empty
        obtain ⟨ad2, y2, rfl, hc2, HY2⟩ := at_scalar HQ.out j (by omega) ByteArray.empty
        have hlt2 : j < m.length := by omega
        by_cases e : y = y2
        · subst e
          go_wp2
          go_quiet (fail)
          go_wp2
          go_roundw
          case rel => exact ⟨j + 1, _, by omega, by go_num, rfl, Lib.hid (by rw [take_snocD l j ByteArray.empty hlt, take_snocD m j ByteArray.empty hlt2, HT.out, HY.out, HY2.out])⟩
          case measure => simp [intOf]; omega
        · have HE : Hid (decide (l = m) = false) := Lib.hid (decide_eq_false (fun h => e (by rw [← HY.out, ← HY2.out, h])))
          have HN := Lib.hid e
          (have hn3 : (y.toList == y2.toList) = false := beq_eq_false_iff_ne.mpr (fun h => e (str_inj h)); have hn4 : (y.toList != y2.toList) = true := bne_iff_ne.mpr (fun h => e (str_inj h)))
          clear e
          go_wp2
          go_quiet (fail)
          go_wp2
          go_ret
          exact ⟨ret_bool HE.out.symm, _, World.drewN_drewN _ _ _⟩
      · have HE : Hid (decide (l = m) = true) := Lib.hid (decide_eq_true (by
          have := HT.out
          rwa [List.take_of_length_le (by omega), List.take_of_length_le (by have := HL.out; omega)] at this))
        go_wp2
        go_ret
        exact ⟨ret_bool HE.out.symm, _, rfl⟩
  · have HE : Hid (decide (l = m) = false) := Lib.hid (decide_eq_false (fun h => hl (by rw [h])))
    have hlI : ((l.length : Int) == (m.length : Int)) = false := by simp; omega
    have hlN : decide (l.length = m.length) = false := by simp [hl]
    have HL := Lib.hid hl
    clear hl
    go_enter Tryd.func62, Tryd.ntmps62
    go_wp2
    go_ret
    exact ⟨ret_bool HE.out.symm, 0, rfl⟩
end Go.Proofs.YtagcmhnanngfbaaDoor.Hand
/- Contracts of dovetailkit's lent and kept lists, rules, grammars. -/
namespace Go.Proofs.YtagcmhnanngfbaaDoor.Hand
open Go.RowKit Go.Proofs.YtagcmhnanngfbaaDoorW.PrintWords Go.Proofs.YtagcmhnanngfbaaDoorW.PrintMore Go.Proofs.YtagcmhnanngfbaaDoor.Math

theorem lentInts_calls (A0 : Option Addr) (c0 : Nat) (l0 : List Int) (w : World) (hr0 : Kd.C (Kd.int .i64) w A0 l0.length l0) (hl : (l0.length + 1) * 8 ≤ 140737488355328) :
    Calls Tryd.prog 29 #[.slice A0 l0.length c0] w fun e w' => ∃ A c, e = .returned (.slice A l0.length c) ∧ l0.length + 1 ≤ c ∧ KMInt.R 3 w' w.heap.size (fun _ => True) (.slice A (l0.length + 1) c) (l0.map some ++ [none]) ∧ Below w.heap.size w w' := by
  have HR0 := Aside0.mk (C_some (a := (Kd.int .i64)) (b := KMInt) rfl hr0 (fun _ _ h => h))
  have HL := Aside0.mk hl
  clear hr0 hl
  have HB := Aside0.mk (Below.refl w.heap.size w)
  go_enter Tryd.func29, Tryd.ntmps29
  go_wp2_with (first
    | ((with_reducible refine gate_builtin (b := .append) (xs := #[.tmp 4, .tmp 5]) rfl ?_); at_builtin; refine Kd.R_append_rows KMInt (w0 := w) w.heap.size rfl (.tmp 4) (.tmp 5) 38 3 (.int .i64 0) 8 rfl Tryd.underlying38 infoInt rfl (by decide) (by omega) (.slice none 0 0) ([] : List (Option Int)) (l0.map some) _ _ _ (fun _ => True) (fun _ => False) rfl rfl (Kd.R_nil _ _ _ _ _) HR0.out (fun _ _ h => h) (fun _ h => h.elim) (fun _ _ => trivial) HB.out (Nat.le_refl _) (by have := HL.out; simp at this ⊢; omega) ?_; intro v1 w1 ho hb _ _; have HO := Aside0.mk ho; have HB1 := Aside0.mk hb; clear ho hb)
    | ((with_reducible refine gate_builtin (b := .append) (xs := #[.tmp 7, .tmp 8]) rfl ?_); at_builtin; refine Kd.R_append KMInt (w0 := w) w.heap.size rfl (.tmp 7) (.tmp 8) 38 3 (.int .i64 0) 8 rfl Tryd.underlying38 infoInt rfl (by decide) (by omega) v1 ([] ++ l0.map some) none [.int .i64 (-7171)] (fun _ => True) (fun _ => False) rfl rfl rfl (fun _ hk => hk.elim) (fun _ _ => trivial) HO.out HB1.out (Below.size HB1.out) (by have := HL.out; simp at this ⊢; omega) ?_; intro v2 w2 ho hb _ _; have HO2 := Aside0.mk ho; have HB2 := Aside0.mk hb; clear ho hb; (obtain ⟨A, c, rfl⟩ := Kd.R_slice HO2.out; have hc : l0.length + 1 ≤ c := (by have := (Kd.R_reads' HO2.out).2.1; simpa using this); have hc2 : l0.length ≤ c := (by omega))))
  go_ret
  exact ⟨A, c, rfl, hc, by simpa using HO2.out, HB2.out⟩
theorem lentStrings_calls (A0 : Option Addr) (c0 : Nat) (l0 : List ByteArray) (w : World) (hr0 : Kd.C Kd.string w A0 l0.length l0) (hl : (l0.length + 1) * 16 ≤ 140737488355328) :
    Calls Tryd.prog 33 #[.slice A0 l0.length c0] w fun e w' => ∃ A c, e = .returned (.slice A l0.length c) ∧ l0.length + 1 ≤ c ∧ KMString.R 9 w' w.heap.size (fun _ => True) (.slice A (l0.length + 1) c) (l0.map some ++ [none]) ∧ Below w.heap.size w w' := by
  have HR0 := Aside0.mk (C_some (a := Kd.string) (b := KMString) rfl hr0 (fun _ _ h => h))
  have HL := Aside0.mk hl
  clear hr0 hl
  have HB := Aside0.mk (Below.refl w.heap.size w)
  go_enter Tryd.func33, Tryd.ntmps33
  go_wp2_with (first
    | ((with_reducible refine gate_builtin (b := .append) (xs := #[.tmp 4, .tmp 5]) rfl ?_); at_builtin; refine Kd.R_append_rows KMString (w0 := w) w.heap.size rfl (.tmp 4) (.tmp 5) 22 9 (.string ⟨#[]⟩) 16 rfl Tryd.underlying22 infoString rfl (by decide) (by omega) (.slice none 0 0) ([] : List (Option ByteArray)) (l0.map some) _ _ _ (fun _ => True) (fun _ => False) rfl rfl (Kd.R_nil _ _ _ _ _) HR0.out (fun _ _ h => h) (fun _ h => h.elim) (fun _ _ => trivial) HB.out (Nat.le_refl _) (by have := HL.out; simp at this ⊢; omega) ?_; intro v1 w1 ho hb _ _; have HO := Aside0.mk ho; have HB1 := Aside0.mk hb; clear ho hb)
    | ((with_reducible refine gate_builtin (b := .append) (xs := #[.tmp 7, .tmp 8]) rfl ?_); at_builtin; refine Kd.R_append KMString (w0 := w) w.heap.size rfl (.tmp 7) (.tmp 8) 22 9 (.string ⟨#[]⟩) 16 rfl Tryd.underlying22 infoString rfl (by decide) (by omega) v1 ([] ++ l0.map some) none [.string ⟨#[109, 97, 114, 107]⟩] (fun _ => True) (fun _ => False) rfl rfl rfl (fun _ hk => hk.elim) (fun _ _ => trivial) HO.out HB1.out (Below.size HB1.out) (by have := HL.out; simp at this ⊢; omega) ?_; intro v2 w2 ho hb _ _; have HO2 := Aside0.mk ho; have HB2 := Aside0.mk hb; clear ho hb; (obtain ⟨A, c, rfl⟩ := Kd.R_slice HO2.out; have hc : l0.length + 1 ≤ c := (by have := (Kd.R_reads' HO2.out).2.1; simpa using this); have hc2 : l0.length ≤ c := (by omega))))
  go_ret
  exact ⟨A, c, rfl, hc, by simpa using HO2.out, HB2.out⟩
theorem keptInts_calls (A B : Option Addr) (c d : Nat) (l : List Int) (w : World) (hv : KMInt.C w A (l.length + 1) (l.map some ++ [none])) (hc : l.length + 1 ≤ c) (hq : Kd.C (Kd.int .i64) w B l.length l) : Quiet 74 #[.slice A l.length c, .slice B l.length d] w (.bool true) := by
  unfold Quiet
  have hlen := hv.2.1
  obtain ⟨ad, rfl, hm⟩ := lent_mark (a := (Kd.int .i64)) hv
  have hcell : w.cell? (ad.add l.length) = some (.int .i64 (-7171)) := by simpa [show Kd.sz (Kd.int .i64) = 1 from rfl] using hm 0 _ rfl
  have HR := Lib.hid (lent_C (a := (Kd.int .i64)) hv)
  have HQ := Lib.hid hq
  clear hv hq hm
  go_enter Tryd.func74, Tryd.ntmps74
  go_wp2_with (go_at_call 21; refine (ints_calls (some ad) B c d l l _ HR.out HQ.out).mono ?_; rintro e w' ⟨rfl, n, rfl⟩; rw [decide_eq_true (show l = l from rfl)])
  go_ret
  exact ⟨rfl, _, rfl⟩
theorem keptStrings_calls (A B : Option Addr) (c d : Nat) (l : List ByteArray) (w : World) (hv : KMString.C w A (l.length + 1) (l.map some ++ [none])) (hc : l.length + 1 ≤ c) (hq : Kd.C Kd.string w B l.length l) : Quiet 46 #[.slice A l.length c, .slice B l.length d] w (.bool true) := by
  unfold Quiet
  have hlen := hv.2.1
  obtain ⟨ad, rfl, hm⟩ := lent_mark (a := Kd.string) hv
  have hcell : w.cell? (ad.add l.length) = some (.string ⟨#[109, 97, 114, 107]⟩) := by simpa [show Kd.sz Kd.string = 1 from rfl] using hm 0 _ rfl
  have HR := Lib.hid (lent_C (a := Kd.string) hv)
  have HQ := Lib.hid hq
  clear hv hq hm
  go_enter Tryd.func46, Tryd.ntmps46
  go_wp2_with (go_at_call 62; refine (kstrings_calls (some ad) B c d l l _ HR.out HQ.out).mono ?_; rintro e w' ⟨rfl, n, rfl⟩; rw [decide_eq_true (show l = l from rfl)])
  go_ret
  exact ⟨rfl, _, rfl⟩
theorem infoRule : (Tryd.prog.info? 56).map (fun i => (i.zero, i.size, i.bytes)) = some (some (.agg #[.int .i64 0, .slice none 0 0]), 2, 32) := by kernel_rfl
theorem lent_made {d : Kd (Option (Int × List Int))} {w1 w2 : World} {base e1 : Nat} {A2 : Option Addr} {c2 : Nat} {r : List Int} {u : Value} {xs : List (Option (Int × List Int))} (hR : KMInt.R 3 w2 w1.heap.size (fun _ => True) (.slice A2 (r.length + 1) c2) (r.map some ++ [none])) (hq : r.length + 1 ≤ c2) (ho : d.R e1 w1 base (fun _ => True) u xs) (hb : base ≤ w1.heap.size) :
    KLInts.M w2 base (fun k => True ∧ some k ≠ u.ownBlock) r [.slice A2 r.length c2] := by
  obtain ⟨inner, hown⟩ := Kd.R_own ho
  exact KLInts.M_lower hb (Kd.M_new (d := KLInts) ⟨A2, c2, rfl, hq, hR⟩ hown)
theorem lent_pair {w : World} {base : Nat} {ok : Nat → Prop} {x : Int} {r : List Int} {v : Value} (h : KLInts.M w base ok r [v]) : KMRule.M w base ok (some (x, r)) [.int .i64 x, v] := ⟨[.int .i64 x], [v], rfl, rfl, h⟩
theorem lentRules_calls (A0 : Option Addr) (c0 : Nat) (l0 : List (Int × List Int)) (w : World) (hr0 : KRule.C w A0 l0.length l0) (hl : (l0.length + 1) * 32 ≤ 140737488355328) (hi : ∀ r ∈ l0, (r.2.length + 1) * 8 ≤ 140737488355328) :
    Calls Tryd.prog 34 #[.slice A0 l0.length c0] w fun e w' => ∃ A c, e = .returned (.slice A l0.length c) ∧ l0.length + 1 ≤ c ∧ KMRule.R 56 w' w.heap.size (fun _ => True) (.slice A (l0.length + 1) c) (l0.map some ++ [none]) ∧ Below w.heap.size w w' := by
  have hlen := hr0.2.1
  have HR0 := Aside0.mk hr0
  have HL := Aside0.mk hl
  have HI := Aside0.mk hi
  clear hr0 hl hi
  go_enter Tryd.func34, Tryd.ntmps34
  go_wp2
  go_loopw [3, 4] (fun v i wr => ∃ (j : Nat), j ≤ l0.length ∧ i = .int .i64 j ∧ Aside0 (KMRule.R 56 wr w.heap.size (fun _ => True) v ((l0.take j).map some)) ∧ Aside0 (Below w.heap.size w wr)) (fun _ i _ => l0.length - (intOf i).toNat)
  case atStart => exact ⟨0, by omega, rfl, ⟨Kd.R_nil _ _ _ _ _⟩, ⟨Below.refl _ _⟩⟩
  case round =>
    obtain ⟨j, hj, rfl, HO, HB⟩ := hrel
    obtain ⟨w1, rfl⟩ : ∃ w1, wr = w1 := ⟨_, rfl⟩
    have hlj : ((l0.take j).map some).length = j := by simp; omega
    by_cases hlt : j < l0.length
    · obtain ⟨ad, x, B, c, r, rfl, hc1, hc2, hrc, hr, HD⟩ := at_rule (Kd.C_below HR0.out HB.out) j hlt
      have HIr := Aside0.mk (HI.out (x, r) (by rw [← HD.out]; exact getD_mem l0 j (0, []) hlt))
      have HRr := Aside0.mk hr
      have HTk := Lib.hid (take_snocD l0 j (0, []) hlt)
      clear hr
      go_wp2_with (first
        | (go_at_call 29; refine (lentInts_calls B c r _ HRr.out HIr.out).mono ?_; rintro e w2 ⟨A2, c2, rfl, hq, hR2, hB2⟩; have HB2 := Aside0.mk (below_next HB.out hB2); have HM := Aside0.mk (lent_made hR2 hq HO.out HB.out.size); have HO2 := Aside0.mk (Kd.R_below HO.out hB2); have hc3 := (hB2.cell (p := ad.add (j * 2)) (World.block_lt_of_cell? _ _ hc1)).trans hc1; clear hR2 hB2 hq)
        | ((with_reducible refine gate_builtin (b := .append) (xs := #[.tmp 18, .tmp 26]) rfl ?_); at_builtin; refine Kd.R_append KMRule (w0 := w) w.heap.size rfl (.tmp 18) (.tmp 26) 23 56 (.agg #[.int .i64 0, .slice none 0 0]) 32 rfl Tryd.underlying23 infoRule rfl (by decide) (by omega) u3 ((l0.take j).map some) (some (x, r)) [.int .i64 x, .slice A2 r.length c2] (fun _ => True) (fun k => True ∧ some k ≠ Value.ownBlock u3) rfl rfl (lent_pair HM.out) (fun k h => h) (fun _ _ => trivial) HO2.out HB2.out (Below.size HB2.out) (by have := HL.out; rw [hlj]; omega) ?_; intro v3 w3 ho hb _ _; have HO3 := Aside0.mk ho; have HB3 := Aside0.mk hb; clear ho hb; skip))
      go_roundw
      case rel => exact ⟨j + 1, by omega, by go_num, ⟨by rw [HTk.out, HD.out, List.map_append]; exact HO3.out⟩, HB3⟩
      case measure => simp [intOf]; omega
    · obtain rfl : j = l0.length := by omega
      have HT : Hid (l0.take l0.length = l0) := Lib.hid (List.take_of_length_le (Nat.le_refl _))
      go_wp2_with (first
        | ((with_reducible refine gate_builtin (b := .append) (xs := #[.tmp 28, .tmp 30]) rfl ?_); at_builtin; refine Kd.R_append KMRule (w0 := w) w.heap.size rfl (.tmp 28) (.tmp 30) 23 56 (.agg #[.int .i64 0, .slice none 0 0]) 32 rfl Tryd.underlying23 infoRule rfl (by decide) (by omega) u3 ((l0.take l0.length).map some) none [.int .i64 (-7171), .slice none 0 0] (fun _ => True) (fun _ => False) rfl rfl rfl (fun _ hk => hk.elim) (fun _ _ => trivial) HO.out HB.out (Below.size HB.out) (by have := HL.out; rw [hlj]; omega) ?_; intro v2 w2 ho hb _ _; have HO2 := Aside0.mk ho; have HB2 := Aside0.mk hb; clear ho hb; (rw [HT.out] at HO2; obtain ⟨A, c, rfl⟩ := Kd.R_slice HO2.out; have hc : l0.length + 1 ≤ c := (by have := (Kd.R_reads' HO2.out).2.1; simpa using this); have hc2 : l0.length ≤ c := (by omega))))
      go_ret
      exact ⟨A, c, rfl, hc, by simpa using HO2.out, HB2.out⟩
theorem keptRules_calls (A B : Option Addr) (c d : Nat) (l : List (Int × List Int)) (w : World) (hv : KMRule.C w A (l.length + 1) (l.map some ++ [none])) (hc : l.length + 1 ≤ c) (hq : KRule.C w B l.length l) : Quiet 47 #[.slice A l.length c, .slice B l.length d] w (.bool true) := by
  unfold Quiet
  have hlen := hv.2.1
  obtain ⟨ad, rfl, hm⟩ := lent_mark (a := KLRule) hv
  have hcell : w.cell? (ad.add (l.length * 2)) = some (.int .i64 (-7171)) := by simpa [show KLRule.sz = 2 from rfl] using hm 0 _ rfl
  have HV := Lib.hid hv
  have HQ := Lib.hid hq
  clear hv hq hm
  go_enter Tryd.func47, Tryd.ntmps47
  go_wp2
  go_loopw [5] (fun i wr => ∃ (j : Nat), j ≤ l.length ∧ i = .int .i64 j ∧ Hid (∃ n, wr = w.drewN n)) (fun i _ => l.length - (intOf i).toNat)
  case atStart => exact ⟨0, by omega, rfl, Lib.hid ⟨0, rfl⟩⟩
  case round =>
    obtain ⟨j, hj, rfl, HW⟩ := hrel
    have HV1 := Lib.hid (show KMRule.C wr (some ad) (l.length + 1) (l.map some ++ [none]) by obtain ⟨n, e⟩ := HW.out; rw [e]; exact Kd.C_drewN HV.out n)
    have HQ1 := Lib.hid (show KRule.C wr B l.length l by obtain ⟨n, e⟩ := HW.out; rw [e]; exact Kd.C_drewN HQ.out n)
    by_cases hlt : j < l.length
    · obtain ⟨ad1, x, B1, c1, r, e1, h1, h2, h3, h4, HD⟩ := at_lrule HV1.out j hlt
      simp only [Option.some.injEq] at e1
      subst e1
      obtain ⟨ad2, x2, B2, c2, r2, rfl, g1, g2, g3, g4, HD2⟩ := at_rule HQ1.out j hlt
      have e := HD.out.symm.trans HD2.out
      simp only [Prod.mk.injEq] at e
      obtain ⟨rfl, rfl⟩ := e
      have H4 := Lib.hid h4
      have G4 := Lib.hid g4
      have hxx : ((x : Int) == x) = true := by simp
      have hxn : ((x : Int) != x) = false := by simp
      clear h4 g4
      go_wp2
      go_quiet ((go_at_call 74; exact Calls.quiet_of (keptInts_calls _ _ _ _ _ _ (Kd.C_drewN H4.out _) h3 (Kd.C_drewN G4.out _))))
      go_wp2
      go_roundw
      case rel => exact ⟨j + 1, by omega, by go_num, Lib.hid (by obtain ⟨n, e⟩ := HW.out; exact ⟨_, by rw [e, World.drewN_drewN]⟩)⟩
      case measure => simp [intOf]; omega
    · go_wp2
      go_ret
      exact ⟨rfl, HW.out⟩
theorem keptGrammar_calls (v u : Value) (g : Gr) (w : World) (hv : GramL w v g) (hu : GramAt w u g) :
    Calls Tryd.prog 16 #[v, u] w fun e w' => e = .returned (.bool true) ∧ Below w.heap.size w w' := by
  obtain ⟨AT, cT, AN, cN, AR, cR, rfl, h1, h2, h3, h4, h5, h6⟩ := hv
  obtain ⟨BT, dT, BN, dN, BR, dR, rfl, q1, q2, q3, q4, q5, q6⟩ := hu
  have H4 := Lib.hid h4
  have H5 := Lib.hid h5
  have H6 := Lib.hid h6
  have Q4 := Lib.hid q4
  have Q5 := Lib.hid q5
  have Q6 := Lib.hid q6
  clear h4 h5 h6 q4 q5 q6
  have hB2 := below_alloc (below_alloc (Below.refl w.heap.size w) (.cells #[.slice AT g.terms.length cT, .slice AN g.nonterms.length cN, .int .i64 g.ax, .slice AR g.rules.length cR] 25)) (.cells #[.slice BT g.terms.length dT, .slice BN g.nonterms.length dN, .int .i64 g.ax, .slice BR g.rules.length dR] 25)
  have HB := Lib.hid hB2
  clear hB2
  go_enter Tryd.func16, Tryd.ntmps16
  go_wp2_with (first
    | (go_at_call 46; refine (keptStrings_calls _ _ _ _ _ _ (Kd.C_below (by first | exact H4.out | exact H5.out) (by first | exact HB.out | exact pw_below_drewN HB.out _)) (by assumption) (Kd.C_below (by first | exact Q4.out | exact Q5.out) (by first | exact HB.out | exact pw_below_drewN HB.out _))).mono ?_; rintro e w' ⟨rfl, n, rfl⟩)
    | (go_at_call 47; refine (keptRules_calls _ _ _ _ _ _ (Kd.C_below H6.out (by first | exact HB.out | exact pw_below_drewN HB.out _)) (by assumption) (Kd.C_below Q6.out (by first | exact HB.out | exact pw_below_drewN HB.out _))).mono ?_; rintro e w' ⟨rfl, n2, rfl⟩))
  go_ret
  exact ⟨rfl, pw_below_drewN HB.out _⟩
theorem blk_below {g : Nat} {o : Obj} {w w' : World} (h : w.heap[g]? = some o) (hb : Below w.heap.size w w') : w'.heap[g]? = some o := (hb.block g (Array.getElem?_eq_some_iff.1 h).1).trans h
theorem blk_set {g t : Nat} {c : Array Value} {w : World} (h : w.heap[g]? = some (.cells c t (0, 0))) (j : Nat) (u : Value) : (w.setCell ⟨g, j, none⟩ u).heap[g]? = some (.cells (c.setIfInBounds j u) t (0, 0)) := by
  obtain ⟨hlt, hk⟩ := Array.getElem?_eq_some_iff.1 h
  show (w.heap.modify g _)[g]? = _
  rw [Array.getElem?_eq_getElem (by rw [Array.size_modify]; exact hlt), Array.getElem_modify_self, hk]
  rfl
theorem held_set {w W : World} {b j : Nat} {u a0 a1 a2 a3 : Value} (h : W.cell? ⟨b, 0, none⟩ = some a0 ∧ W.cell? ⟨b, 1, none⟩ = some a1 ∧ W.cell? ⟨b, 2, none⟩ = some a2 ∧ W.cell? ⟨b, 3, none⟩ = some a3 ∧ Aside0 (Below w.heap.size w W) ∧ b + 1 < W.heap.size) (hb : w.heap.size ≤ b + 1 := by omega) :
    (W.setCell ⟨b + 1, j, none⟩ u).cell? ⟨b, 0, none⟩ = some a0 ∧ (W.setCell ⟨b + 1, j, none⟩ u).cell? ⟨b, 1, none⟩ = some a1 ∧ (W.setCell ⟨b + 1, j, none⟩ u).cell? ⟨b, 2, none⟩ = some a2 ∧ (W.setCell ⟨b + 1, j, none⟩ u).cell? ⟨b, 3, none⟩ = some a3 ∧ Aside0 (Below w.heap.size w (W.setCell ⟨b + 1, j, none⟩ u)) ∧ b + 1 < (W.setCell ⟨b + 1, j, none⟩ u).heap.size := by
  obtain ⟨h0, h1, h2, h3, h4, h5⟩ := h
  have hk := Below.heap_setCell W ⟨b + 1, j, none⟩ u b (by simp)
  refine ⟨(World.cell?_of_block (w := W) hk).trans h0, (World.cell?_of_block (w := W) hk).trans h1, (World.cell?_of_block (w := W) hk).trans h2, (World.cell?_of_block (w := W) hk).trans h3, ⟨h4.out.setCell hb u⟩, ?_⟩
  simpa [World.setCell] using h5
theorem R_sets4 {α : Type} {d : Kd α} {e : Nat} {w : World} {base : Nat} {ok : Nat → Prop} {v : Value} {xs : List α} {g t : Nat} {a b c a' : Value} (h : d.R e w base ok v xs) (hb : w.heap[g]? = some (.cells #[a, b, c, a'] t (0, 0))) (ht : ∀ q, q ∈ e :: d.E → q ≠ t) (u0 u1 u2 u3 : Value) :
    d.R e ((((w.setCell ⟨g, 0, none⟩ u0).setCell ⟨g, 1, none⟩ u1).setCell ⟨g, 2, none⟩ u2).setCell ⟨g, 3, none⟩ u3) base ok v xs := by
  have h1 := Kd.R_set h hb ht 0 u0
  have b1 := blk_set hb 0 u0
  have h2 := Kd.R_set h1 b1 ht 1 u1
  have b2 := blk_set b1 1 u1
  have h3 := Kd.R_set h2 b2 ht 2 u2
  have b3 := blk_set b2 2 u2
  exact Kd.R_set h3 b3 ht 3 u3
theorem blk_sets4 {w : World} {g t : Nat} {a b c a' : Value} (hb : w.heap[g]? = some (.cells #[a, b, c, a'] t (0, 0))) (u0 u1 u2 u3 : Value) :
    ((((w.setCell ⟨g, 0, none⟩ u0).setCell ⟨g, 1, none⟩ u1).setCell ⟨g, 2, none⟩ u2).setCell ⟨g, 3, none⟩ u3).heap[g]? = some (.cells #[u0, u1, u2, u3] t (0, 0)) :=
  blk_set (blk_set (blk_set (blk_set hb 0 u0) 1 u1) 2 u2) 3 u3
theorem blk_cells4 {g : Nat} {a b c d : Value} {t : TypeId} {w : World} (h : w.heap[g]? = some (.cells #[a, b, c, d] t (0, 0))) :
    (w.cell? ⟨g, 0, none⟩ = some a ∧ w.cell? ⟨g, 1, none⟩ = some b ∧ w.cell? ⟨g, 2, none⟩ = some c ∧ w.cell? ⟨g, 3, none⟩ = some d) ∧ w.frozen? ⟨g, 0, none⟩ = false ∧ w.frozen? ⟨g, 1, none⟩ = false ∧ w.frozen? ⟨g, 2, none⟩ = false ∧ w.frozen? ⟨g, 3, none⟩ = false := by
  refine ⟨⟨?_, ?_, ?_, ?_⟩, ?_, ?_, ?_, ?_⟩ <;> simp [World.cell?, World.frozen?, h]
theorem held_step {w W w' : World} {b : Nat} {a0 a1 a2 a3 : Value} (h : W.cell? ⟨b, 0, none⟩ = some a0 ∧ W.cell? ⟨b, 1, none⟩ = some a1 ∧ W.cell? ⟨b, 2, none⟩ = some a2 ∧ W.cell? ⟨b, 3, none⟩ = some a3 ∧ Aside0 (Below w.heap.size w W) ∧ b + 1 < W.heap.size) (hb : Below W.heap.size W w') :
    w'.cell? ⟨b, 0, none⟩ = some a0 ∧ w'.cell? ⟨b, 1, none⟩ = some a1 ∧ w'.cell? ⟨b, 2, none⟩ = some a2 ∧ w'.cell? ⟨b, 3, none⟩ = some a3 ∧ Aside0 (Below w.heap.size w w') ∧ b + 1 < w'.heap.size := by
  obtain ⟨h0, h1, h2, h3, h4, h5⟩ := h
  have hl : b < W.heap.size := by omega
  exact ⟨(hb.cell (p := ⟨b, 0, none⟩) hl).trans h0, (hb.cell (p := ⟨b, 1, none⟩) hl).trans h1, (hb.cell (p := ⟨b, 2, none⟩) hl).trans h2, (hb.cell (p := ⟨b, 3, none⟩) hl).trans h3, ⟨below_next h4.out hb⟩, Nat.lt_of_lt_of_le h5 hb.size⟩
theorem lentGrammar_calls (v : Value) (g : Gr) (w : World) (hv : GramAt w v g) (ht : (g.terms.length + 1) * 16 ≤ 140737488355328) (hn : (g.nonterms.length + 1) * 16 ≤ 140737488355328) (hl : (g.rules.length + 1) * 32 ≤ 140737488355328) (hi : ∀ r ∈ g.rules, (r.2.length + 1) * 8 ≤ 140737488355328) :
    Calls Tryd.prog 10 #[v] w fun e w' => ∃ u, e = .returned u ∧ GramL w' u g ∧ Below w.heap.size w w' := by
  obtain ⟨AT, cT, AN, cN, AR, cR, rfl, h1, h2, h3, h4, h5, h6⟩ := hv
  have HT := Lib.hid ht
  have HN := Lib.hid hn
  have HL := Lib.hid hl
  have HI := Lib.hid hi
  clear ht hn hl hi
  obtain ⟨w0, hw0⟩ : ∃ w0, (w.alloc (.cells #[.slice AT g.terms.length cT, .slice AN g.nonterms.length cN, .int .i64 g.ax, .slice AR g.rules.length cR] 25)).alloc (.cells #[.slice none 0 0, .slice none 0 0, .int .i64 0, .slice none 0 0] 25) = w0 := ⟨_, rfl⟩
  have HB := Aside0.mk (show Below w.heap.size w w0 by rw [← hw0]; exact below_alloc (below_alloc (Below.refl w.heap.size w) _) _)
  have hsz : w.heap.size + 1 < w0.heap.size := by rw [← hw0]; simp
  have hc0 : w0.cell? ⟨w.heap.size, 0, none⟩ = some (.slice AT g.terms.length cT) := by rw [← hw0]; simp [go_sem]
  have hc1 : w0.cell? ⟨w.heap.size, 1, none⟩ = some (.slice AN g.nonterms.length cN) := by rw [← hw0]; simp [go_sem]
  have hc2 : w0.cell? ⟨w.heap.size, 2, none⟩ = some (.int .i64 g.ax) := by rw [← hw0]; simp [go_sem]
  have hc3 : w0.cell? ⟨w.heap.size, 3, none⟩ = some (.slice AR g.rules.length cR) := by rw [← hw0]; simp [go_sem]
  have HBlk := Lib.hid (show w0.heap[w.heap.size + 1]? = some (.cells #[.slice none 0 0, .slice none 0 0, .int .i64 0, .slice none 0 0] 25 (0, 0)) by rw [← hw0]; have h := heap_alloc_new (w.alloc (.cells #[.slice AT g.terms.length cT, .slice AN g.nonterms.length cN, .int .i64 g.ax, .slice AR g.rules.length cR] 25)) (.cells #[.slice none 0 0, .slice none 0 0, .int .i64 0, .slice none 0 0] 25); rwa [World.size_alloc] at h)
  have H4 := Lib.hid h4
  have H5 := Lib.hid h5
  have H6 := Lib.hid h6
  clear h4 h5 h6
  go_enter Tryd.func10, Tryd.ntmps10
  go_wp2
  clear hw0
  have tok1 : True := trivial
  go_region_held3 (fun w' => w'.cell? ⟨w.heap.size, 0, none⟩ = some (.slice AT g.terms.length cT) ∧ w'.cell? ⟨w.heap.size, 1, none⟩ = some (.slice AN g.nonterms.length cN) ∧ w'.cell? ⟨w.heap.size, 2, none⟩ = some (.int .i64 g.ax) ∧ w'.cell? ⟨w.heap.size, 3, none⟩ = some (.slice AR g.rules.length cR) ∧ Aside0 (Below w.heap.size w w') ∧ w.heap.size + 1 < w'.heap.size)
    (first
      | (refine ⟨?_, ?_, ?_, ?_, ⟨below_drew1 HB.out⟩, hsz⟩ <;> assumption)
      | exact held_step hS.out hb.out
      | exact held_set (held_set (held_set (held_set (held_step hS.out hb.out)))))
    (first
      | (go_at_call 33; have t_ := tok1; have hS := Aside0.mk (by assumption : _ ∧ _ ∧ _ ∧ _ ∧ Aside0 (Below w.heap.size w _) ∧ _); refine (lentStrings_calls AT cT g.terms _ (Kd.C_below H4.out hS.out.2.2.2.2.1.out) HT.out).mono ?_; rintro e w1 ⟨A1, c1, rfl, hq1, hR1, hb1⟩; have hb := Aside0.mk hb1; have R1 := Aside0.mk hR1; have K1 := Aside0.mk (blk_below HBlk.out (below_drew1 (Below.refl _ _) |>.trans hb1)); clear tok1 t_ hb1 hR1)
      | (go_at_call 33; have hS := Aside0.mk (by assumption : _ ∧ _ ∧ _ ∧ _ ∧ Aside0 (Below w.heap.size w _) ∧ _); refine (lentStrings_calls AN cN g.nonterms _ (Kd.C_below H5.out hS.out.2.2.2.2.1.out) HN.out).mono ?_; rintro e w2 ⟨A2, c2, rfl, hq2, hR2, hb2⟩; have hb := Aside0.mk hb2; have R12 := Aside0.mk (Kd.R_below R1.out hb2); have R2 := Aside0.mk hR2; have K2 := Aside0.mk (blk_below K1.out hb2); clear hb2 hR2)
      | (go_at_call 34; have hS := Aside0.mk (by assumption : _ ∧ _ ∧ _ ∧ _ ∧ Aside0 (Below w.heap.size w _) ∧ _); refine (lentRules_calls AR cR g.rules _ (Kd.C_below H6.out hS.out.2.2.2.2.1.out) HL.out HI.out).mono ?_; rintro e w3 ⟨A3, c3, rfl, hq3, hR3, hb3⟩; have hb := Aside0.mk hb3; have R13 := Aside0.mk (Kd.R_below R12.out hb3); have R23 := Aside0.mk (Kd.R_below R2.out hb3); have R3 := Aside0.mk hR3; have K3 := Aside0.mk (blk_below K2.out hb3); have HB3 := Aside0.mk (below_next hS.out.2.2.2.2.1.out hb3); obtain ⟨⟨e0, e1, e2, e3⟩, f0, f1, f2, f3⟩ := blk_cells4 K3.out; clear hb3 hR3))
  go_wp2
  have hne : ∀ t ∈ [9, 56, 3], t ≠ 25 := by decide
  have G1 := Aside0.mk (R_sets4 (d := KMString) R13.out K3.out (by intro q hq; exact hne q (by revert hq; simp [KMString, KOpt, Kd.string, Kd.scalar]; intro h; subst h; decide)) (.slice A1 g.terms.length c1) (.slice A2 g.nonterms.length c2) (.int .i64 g.ax) (.slice A3 g.rules.length c3))
  have G2 := Aside0.mk (R_sets4 (d := KMString) R23.out K3.out (by intro q hq; exact hne q (by revert hq; simp [KMString, KOpt, Kd.string, Kd.scalar]; intro h; subst h; decide)) (.slice A1 g.terms.length c1) (.slice A2 g.nonterms.length c2) (.int .i64 g.ax) (.slice A3 g.rules.length c3))
  have G3 := Aside0.mk (R_sets4 (d := KMRule) R3.out K3.out (by intro q hq; exact hne q (by revert hq; simp [KMRule, KLRule, KLInts, KLent, KMInt, KOpt, Kd.pair, Kd.int, Kd.scalar]; omega)) (.slice A1 g.terms.length c1) (.slice A2 g.nonterms.length c2) (.int .i64 g.ax) (.slice A3 g.rules.length c3))
  have KF := blk_sets4 K3.out (.slice A1 g.terms.length c1) (.slice A2 g.nonterms.length c2) (.int .i64 g.ax) (.slice A3 g.rules.length c3)
  have BF := Aside0.mk ((((HB3.out.setCell (p := ⟨w.heap.size + 1, 0, none⟩) (by simp) (.slice A1 g.terms.length c1)).setCell (p := ⟨w.heap.size + 1, 1, none⟩) (by simp) (.slice A2 g.nonterms.length c2)).setCell (p := ⟨w.heap.size + 1, 2, none⟩) (by simp) (.int .i64 g.ax)).setCell (p := ⟨w.heap.size + 1, 3, none⟩) (by simp) (.slice A3 g.rules.length c3))
  generalize ((((w3.setCell ⟨w.heap.size + 1, 0, none⟩ (.slice A1 g.terms.length c1)).setCell ⟨w.heap.size + 1, 1, none⟩ (.slice A2 g.nonterms.length c2)).setCell ⟨w.heap.size + 1, 2, none⟩ (.int .i64 g.ax)).setCell ⟨w.heap.size + 1, 3, none⟩ (.slice A3 g.rules.length c3)) = w4 at *
  obtain ⟨⟨g0, g1, g2, g3⟩, -⟩ := blk_cells4 KF
  have L1 := (Kd.R_reads' G1.out).2.2
  have L2 := (Kd.R_reads' G2.out).2.2
  have L3 := (Kd.R_reads' G3.out).2.2
  refine bodyPost_ret (v := .agg #[.slice A1 g.terms.length c1, .slice A2 g.nonterms.length c2, .int .i64 g.ax, .slice A3 g.rules.length c3]) (by simp [results, Tryd.results10, go_sem, g0, g1, g2, g3]) rfl ⟨_, rfl, ⟨A1, c1, A2, c2, A3, c3, rfl, hq1, hq2, hq3, ?_, ?_, ?_⟩, BF.out⟩
  · simpa using L1
  · simpa using L2
  · simpa using L3
end Go.Proofs.YtagcmhnanngfbaaDoor.Hand
