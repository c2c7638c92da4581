/- Contract of useful.Word. -/
import Derived.Test.YtagcmhnanngfbaaDoorWm
import Derived.Test.YtagcmhnanngfbaaDoorLen
namespace Go.Proofs.YtagcmhnanngfbaaDoor.Hand
open Go.RowKit Go.Proofs.YtagcmhnanngfbaaDoorW.PrintWords Go.Proofs.YtagcmhnanngfbaaDoorW.PrintMore Go.Proofs.YtagcmhnanngfbaaDoor.Math

theorem Made.drewN {wb wr : World} {u : Value} {p : List Int} (h : Made wb u p wr) (n : Nat) : Made wb u p (wr.drewN n) := ⟨h.form, Kd.R_below h.own (pw_below_drewN (Below.refl _ _) _), pw_below_drewN h.bel _⟩
/-- What Word tells: the row, or the error. -/
def UWordTold (g : Gr) (x : Int) (L : Nat → Int) (A : Nat → Addr) (w' : World) (v u : Value) : Prop :=
  (L x.toNat < 0 ∧ v = .slice none 0 0 ∧ ErrV w' A u 15 (-1)) ∨ (65536 < L x.toNat ∧ v = .slice none 0 0 ∧ ErrV w' A u 12 (-1)) ∨
  (0 ≤ L x.toNat ∧ L x.toNat ≤ 65536 ∧ u = .nilIface ∧ ∃ ad c q, WordIs g.rules x.toNat q ∧ v = .slice (some ad) q.length c ∧ Kd.C (Kd.int .i64) w' (some ad) q.length q)
def UWordRes (w0 : World) (g : Gr) (x : Int) (A : Nat → Addr) (e : Ending) (w' : World) : Prop :=
  ∃ v u, e = .returned (.tuple #[v, u]) ∧ Below w0.heap.size w0 w' ∧
    ((¬ (checkN g).1 = 0 ∧ v = .slice none 0 0 ∧ ErrV w' A u (checkN g).1 (checkN g).2) ∨ ((checkN g).1 = 0 ∧ (x < 0 ∨ (g.nonterms.length : Int) ≤ x) ∧ v = .slice none 0 0 ∧ ErrV w' A u 1 (-1)) ∨
     ((checkN g).1 = 0 ∧ 0 ≤ x ∧ x < g.nonterms.length ∧ ∃ L, LenIs g.rules g.nonterms.length L ∧ UWordTold g x L A w' v u))
theorem infoIntsW : (Tryd.prog.info? 38).map (fun i => (i.zero, i.size, i.bytes)) = some (some (.slice none 0 0), 1, 24) := by kernel_rfl
set_option maxHeartbeats 4000000 in
set_option maxRecDepth 100000 in
theorem uword_calls (v : Value) (g : Gr) (x0 : Int) (w : World) (A : Nat → Addr) (hE : Errs w A) (hv : GramAt w v g) :
    Calls Tryd.prog 19 #[v, .int .i64 x0] w fun e w' => UWordRes w g x0 A e w' := by
  have HV := Lib.hid hv
  obtain ⟨AT, cT, AN, cN, AR, cR, rfl, q1, q2, q3, q4, q5, q6⟩ := hv
  have hlr := q6.2.1
  have l2 := q5.2.1
  obtain ⟨w1, hw1⟩ : ∃ w1, w.alloc (.cells #[.slice AT g.terms.length cT, .slice AN g.nonterms.length cN, .int .i64 g.ax, .slice AR g.rules.length cR] 25) = w1 := ⟨_, rfl⟩
  have hb1 : Below w.heap.size w w1 := by rw [← hw1]; exact below_alloc (Below.refl _ _) _
  have hk1 : w1.heap[w.heap.size]? = some (.cells #[.slice AT g.terms.length cT, .slice AN g.nonterms.length cN, .int .i64 g.ax, .slice AR g.rules.length cR] 25 (0, 0)) := by rw [← hw1]; exact heap_alloc_new w _
  obtain ⟨c0, c1, c2, c3⟩ := blk_cells2 hk1
  have HB1 := Lib.hid hb1
  have HK1 := Lib.hid hk1
  have HG := Lib.hid (HV.out.below hb1)
  have HE := Lib.hid (hE.below hb1)
  have HR := Lib.hid (Kd.C_below q6 hb1)
  have HCk := Lib.hid (check_calls _ g w1 A HE.out HG.out)
  clear hb1 hk1 hE q4 q5 q6
  by_cases hok : (checkN g).1 = 0
  · have HOK := Lib.hid hok
    have HC := Lib.hid (GOk.of hok)
    have HM := Lib.hid (fun (W : World) (hW : Below w1.heap.size w1 W) => ulengths_calls _ g W (HG.out.below hW) (GOk.of hok))
    clear hok
    have hN : g.nonterms.length ≤ 60 := by have := HC.out.size; omega
    by_cases hx : x0 < 0 ∨ (g.nonterms.length : Int) ≤ x0
    · have hcase : x0 < 0 ∨ (¬ x0 < 0 ∧ (g.nonterms.length : Int) ≤ x0) := by omega
      have HX := Lib.hid hx
      clear hx
      rcases hcase with hcase | ⟨hcase, hcase2⟩
      all_goals
        go_enter Tryd.func19, Tryd.ntmps19
        go_wp2_with (go_at_call 35; refine HCk.out.mono ?_; rintro e w2 ⟨u, rfl, hu, hb2⟩; have HB2 := Lib.hid hb2; obtain rfl := hu.nil_of HOK.out; obtain ⟨d0, d1, d2, d3⟩ := blk_cells2 (gblk_keep' HK1.out hb2); have e0 : w2.cell? ⟨0, 0, none⟩ = some (.iface 141 (.pointer (some (A 0)))) := (HE.out.below hb2).cells 0 (by omega); clear hu hb2 c0 c1 c2 c3)
        go_quiet (fail)
        go_wp2
        go_ret2
        exact ⟨_, _, rfl, pw_below_drewN (below_next HB1.out HB2.out) _, .inr (.inl ⟨HOK.out, HX.out, rfl, .sent 0 (by omega)⟩)⟩
    · have hx0 : 0 ≤ x0 := by omega
      have hxN : x0 < (g.nonterms.length : Int) := by omega
      clear hx
      have hr120 := HC.out.rules
      have hmk : ∀ W : World, (Instr.makeSlice 61 (.int .i64 ((g.nonterms.length : Nat) : Int)) (.int .i64 ((g.nonterms.length : Nat) : Int))).run Tryd.prog W = .ok (.slice (some ⟨W.heap.size, 0, none⟩) g.nonterms.length g.nonterms.length) (W.alloc (.cells (madeCells #[.slice none 0 0] g.nonterms.length) 38)) :=
        print_make_of (P := Tryd.prog) 61 38 (.slice none 0 0) 24 rfl infoIntsW rfl (by decide) g.nonterms.length (by omega)
      have hmkb : ∀ W : World, (Instr.makeSlice 60 (.int .i64 ((g.nonterms.length : Nat) : Int)) (.int .i64 ((g.nonterms.length : Nat) : Int))).run Tryd.prog W = .ok (.slice (some ⟨W.heap.size, 0, none⟩) g.nonterms.length g.nonterms.length) (W.alloc (.cells (madeCells #[.bool false] g.nonterms.length) 4)) :=
        print_make_of (P := Tryd.prog) 60 4 (.bool false) 1 rfl infoBool rfl (by decide) g.nonterms.length (by omega)
      have hmf : ∀ (fn : Fn) (first cap : Array Value) (w : World), (Instr.makeFunc fn first cap).run Tryd.prog w = .ok (.func fn first cap) w := fun _ _ _ _ => rfl
      go_enter Tryd.func19, Tryd.ntmps19
      go_upto_region 7 with (first
        | (go_at_call 35; refine HCk.out.mono ?_; rintro e w2 ⟨u, rfl, hu, hb2⟩; have HB2 := Lib.hid hb2; obtain rfl := hu.nil_of HOK.out; obtain ⟨d0, d1, d2, d3⟩ := blk_cells2 (gblk_keep' HK1.out hb2); clear hu hb2 c0 c1 c2 c3)
        | (go_at_call 48; refine (HM.out w2 HB2.out).mono ?_; rintro e w3 ⟨gm, L, rfl, hrow, hL, hgm, hb3⟩; have HRow := Lib.hid hrow; have HL := Lib.hid hL; have HB3 := Lib.hid (below_next HB2.out hb3); clear hrow hL hgm hb3 d0 d1 d2 d3))
      have hcell := HRow.out.cell x0.toNat (by omega)
      obtain ⟨n0, hn0⟩ : ∃ n, L x0.toNat = n := ⟨_, rfl⟩
      rw [hn0] at hcell
      have hn1 : -1 ≤ n0 := by rw [← hn0]; exact (HL.out.1 _ (by omega)).1
      have hn2 : n0 ≤ 65537 := by rw [← hn0]; exact (HL.out.1 _ (by omega)).2.1
      have HN0 := Lib.hid hn0
      clear hn0 hw1
      obtain ⟨c0, c1, c2, c3⟩ := blk_cells2 (gblk_keep' HK1.out HB3.out)
      have e14 : w3.cell? ⟨14, 0, none⟩ = some (.iface 141 (.pointer (some (A 14)))) := (HE.out.below HB3.out).cells 14 (by omega)
      have e11 : w3.cell? ⟨11, 0, none⟩ = some (.iface 141 (.pointer (some (A 11)))) := (HE.out.below HB3.out).cells 11 (by omega)
      by_cases hneg : n0 = -1
      · subst hneg
        go_wp2
        go_quiet (fail)
        go_wp2
        go_ret2
        exact ⟨_, _, rfl, pw_below_drewN (below_next HB1.out HB3.out) _, .inr (.inr ⟨HOK.out, hx0, hxN, L, HL.out, .inl ⟨by rw [HN0.out]; omega, rfl, .sent 14 (by omega)⟩⟩)⟩
      · by_cases hbig : n0 = 65537
        · subst hbig
          go_wp2
          go_quiet (fail)
          go_wp2
          go_ret2
          exact ⟨_, _, rfl, pw_below_drewN (below_next HB1.out HB3.out) _, .inr (.inr ⟨HOK.out, hx0, hxN, L, HL.out, .inr (.inl ⟨by rw [HN0.out]; omega, rfl, .sent 11 (by omega)⟩)⟩)⟩
        · have hz1 : (n0 == -1) = false := by rw [beq_eq_false_iff_ne]; exact hneg
          have hz2 : (n0 == 65537) = false := by rw [beq_eq_false_iff_ne]; exact hbig
          have hn3 : 0 ≤ n0 ∧ n0 ≤ 65536 := by omega
          have HN3 := Lib.hid hn3
          clear hneg hbig hn1 hn2 hn3 e14 e11
          have hlt3 : w.heap.size < w3.heap.size := World.block_lt_of_cell? w3 _ c0
          have d1 := (World.cell?_alloc_lt (w3.alloc (.cells (madeCells #[.slice none 0 0] g.nonterms.length) 38)) (.cells #[.slice (some ⟨w3.heap.size, 0, none⟩) g.nonterms.length g.nonterms.length] 61) ⟨w.heap.size, 1, none⟩ (by rw [World.size_alloc]; show w.heap.size < _; omega)).trans ((World.cell?_alloc_lt w3 (.cells (madeCells #[.slice none 0 0] g.nonterms.length) 38) ⟨w.heap.size, 1, none⟩ hlt3).trans c1)
          clear hlt3
          go_wp2
          obtain ⟨hS9, hB9⟩ := WSt.made w3 g.nonterms.length 38 61 4 60
          obtain ⟨w9, hw9⟩ : ∃ w9, ((((w3.alloc (.cells (madeCells #[.slice none 0 0] g.nonterms.length) 38)).alloc (.cells #[.slice (some ⟨w3.heap.size, 0, none⟩) g.nonterms.length g.nonterms.length] 61)).alloc (.cells (madeCells #[.bool false] g.nonterms.length) 4)).alloc (.cells #[.slice (some ⟨w3.heap.size + 1 + 1, 0, none⟩) g.nonterms.length g.nonterms.length] 60)) = w9 := ⟨_, rfl⟩
          rw [hw9] at hS9 hB9 ⊢
          have HB9 := Aside0.mk hB9
          have HGm : Hid (gm < w3.heap.size) := Lib.hid HRow.out.lt
          obtain ⟨b, hb⟩ : ∃ b, w3.heap.size = b := ⟨_, rfl⟩
          rw [hb] at hS9 ⊢
          obtain ⟨b1, e1⟩ : ∃ b1, b + 1 = b1 := ⟨_, rfl⟩
          rw [e1] at hS9 ⊢
          obtain ⟨b2, e2⟩ : ∃ b2, b1 + 1 = b2 := ⟨_, rfl⟩
          rw [e2] at hS9 ⊢
          obtain ⟨b3, e3⟩ : ∃ b3, b2 + 1 = b3 := ⟨_, rfl⟩
          rw [e3] at hS9 ⊢
          have HBq : Hid (w3.heap.size ≤ b ∧ w3.heap.size ≤ b2) := Lib.hid (by omega)
          have HS9 := Aside0.mk hS9
          clear hS9 hB9 hw9 hb e1 e2 e3 d1 c0 c1 c2 c3 hmk hmkb hmf hcell hz1 hz2
          have HSyA : Hid (∀ r ∈ g.rules, ∀ z ∈ r.2, -(g.nonterms.length : Int) ≤ z) := Lib.hid (fun r hr z hz => (HC.out.right.sym hr hz).1)
          go_loopg [11] (2 * wmeas g.nonterms.length 65568 (fun _ => none) + 1) (fun m v wr => ∃ (again : Bool) (V : Nat → Value) (W : Nat → Option (List Int)), v = .bool again ∧ Aside0 (WSt wr b b1 b2 b3 g.nonterms.length V W) ∧ Aside0 (SoundM g.rules g.nonterms.length L W) ∧ Aside0 (again = false → ∀ i, i < g.rules.length → CRm g.rules L W i) ∧ Aside0 (Below w3.heap.size w3 wr) ∧ Aside0 (m = 2 * wmeas g.nonterms.length 65568 W + (if again then 1 else 0)))
          case atStart => exact ⟨true, _, fun _ => none, rfl, HS9, ⟨fun k hk w h => by cases h⟩, ⟨fun h => by cases h⟩, HB9, ⟨rfl⟩⟩
          case round =>
            obtain ⟨again, V0, W0, rfl, HRw0, HS0, HX0, HB0, HM0⟩ := hrel
            obtain ⟨wo, rfl⟩ : ∃ wo : World, wo = wr := ⟨_, rfl⟩
            cases again
            · have HLeast : Hid (∃ u, W0 x0.toNat = some u ∧ WordIs g.rules x0.toNat u) := Lib.hid (CRm.least HL.out HS0.out HSyA.out (HX0.out rfl) (by omega) (by rw [HN0.out]; exact HN3.out.1) (by rw [HN0.out]; exact HN3.out.2))
              obtain ⟨u, hu, hwi⟩ := HLeast.out
              have hl := HRw0.out.rows.lst x0.toNat (by omega)
              have hcv := HRw0.out.rows.row.cell x0.toNat (by omega)
              have hpr := HRw0.out.pr
              rw [hu] at hl
              obtain ⟨ad, c, e1, e2, e3, e4⟩ := hl
              rw [e1] at hcv
              have HWi := Lib.hid hwi
              have HCv := Lib.hid e3
              clear hu hwi e1 e2 e3 e4
              go_wp2
              go_ret2
              exact ⟨_, _, rfl, below_next HB1.out (below_next HB3.out HB0.out), .inr (.inr ⟨HOK.out, hx0, hxN, L, HL.out, .inr (.inr ⟨by rw [HN0.out]; exact HN3.out.1, by rw [HN0.out]; exact HN3.out.2, rfl, ad, c, u, HWi.out, rfl, HCv.out⟩)⟩)⟩
            · obtain ⟨c0, c1, c2, c3⟩ := blk_cells2 (gblk_keep' HK1.out (below_next HB3.out HB0.out))
              go_wp2
              go_step3
              go_wp2
              go_step3
              go_wp2
              clear c0 c1 c2 c3
              go_loopw [11, 57] (fun a x wr => ∃ (ag : Bool) (i : Nat) (V : Nat → Value) (W : Nat → Option (List Int)), i ≤ g.rules.length ∧ a = .bool ag ∧ x = .int .i64 i ∧ Aside0 (WSt wr b b1 b2 b3 g.nonterms.length V W) ∧ Aside0 (SoundM g.rules g.nonterms.length L W) ∧ Aside0 (ag = false → ∀ j, j < i → CRm g.rules L W j) ∧ Aside0 (Below w3.heap.size w3 wr) ∧ Aside0 (wmeas g.nonterms.length 65568 W + (if ag then 1 else 0) ≤ wmeas g.nonterms.length 65568 W0)) (fun _ x _ => g.rules.length - (intOf x).toNat)
              case atStart => exact ⟨false, 0, V0, W0, by omega, rfl, rfl, HRw0, HS0, ⟨fun _ j h => by omega⟩, HB0, ⟨by simp⟩⟩
              case round =>
                obtain ⟨ag, i, V, W, hi, rfl, rfl, HRw, HSW, HXW, HBW, HMW⟩ := hrel
                obtain ⟨wi, rfl⟩ : ∃ wo : World, wo = wr := ⟨_, rfl⟩
                by_cases hlt : i < g.rules.length
                · obtain ⟨ad, x, B, c, r, rfl, k1, k2, hrc, hr, HD⟩ := at_rule (Kd.C_below HR.out (below_next HB3.out HBW.out)) i hlt
                  have hRr : Hid ((x, r) ∈ g.rules) := Lib.hid (by rw [← HD.out]; exact getD_mem g.rules i _ hlt)
                  have hx0' : 0 ≤ x := (HC.out.right.left hRr.out).1
                  have hxN' : x < g.nonterms.length := (HC.out.right.left hRr.out).2
                  have hr32 : r.length ≤ 32 := ruleN_len (HC.out.right (x, r) hRr.out)
                  obtain ⟨wb, hwb⟩ : ∃ w4, wi.alloc (.cells #[.int .i64 x, .slice B r.length c] 56) = w4 := ⟨_, rfl⟩
                  have hb4 : Below wi.heap.size wi wb := by rw [← hwb]; exact below_alloc (Below.refl _ _) _
                  have r0 : wb.cell? ⟨wi.heap.size, 0, none⟩ = some (.int .i64 x) := by rw [← hwb]; simp [go_sem]
                  have r1 : wb.cell? ⟨wi.heap.size, 1, none⟩ = some (.slice B r.length c) := by rw [← hwb]; simp [go_sem]
                  have HB4 := Aside0.mk (below_next HBW.out hb4)
                  have HRw4 := Aside0.mk (HRw.out.below hb4)
                  have HR4 := Lib.hid (Kd.C_below hr hb4)
                  have HGb : Hid (b < wb.heap.size ∧ b2 < wb.heap.size) := Lib.hid ⟨HRw4.out.rows.row.lt, HRw4.out.known.lt⟩
                  have HSy := Lib.hid (fun s (hs : s ∈ r) => HC.out.right.sym hRr.out hs)
                  have HT60 := Lib.hid HC.out.size
                  have HRow4 := Aside0.mk (HRow.out.belowN HB4.out HGm.out)
                  obtain ⟨nx, hnx⟩ : ∃ n, L x.toNat = n := ⟨_, rfl⟩
                  have hcl := HRow4.out.cell x.toNat (by omega)
                  rw [hnx] at hcl
                  have hnx2 : nx ≤ 65537 := by rw [← hnx]; exact (HL.out.1 _ (by omega)).2.1
                  have HCR : Hid (CRm g.rules L W i ↔ (0 ≤ nx → nx ≤ 65536 → ∀ q, bldM L W nx (some []) r = some q → (q.length : Int) = nx → ∃ u, W x.toNat = some u ∧ cmpL u q ≤ 0)) := Lib.hid (by unfold CRm; rw [HD.out, hnx])
                  have HNx := Lib.hid hnx
                  clear hnx hr
                  by_cases hneg : nx < 0 ∨ nx = 65537
                  · have HCl : Hid (CRm g.rules L W i) := Lib.hid (HCR.out.2 (fun h1 h2 => by omega))
                    have hcase : nx < 0 ∨ (¬ nx < 0 ∧ nx = 65537) := by omega
                    clear hneg hb4
                    rcases hcase with hcase | ⟨hcase, rfl⟩
                    all_goals
                      go_wp2
                      go_roundw
                      case rel => exact ⟨ag, i + 1, V, W, by omega, rfl, by go_num, HRw4, HSW, ⟨fun h j hj => by
                        rcases Nat.lt_or_ge j i with h' | h'
                        · exact HXW.out h j h'
                        · obtain rfl : j = i := by omega
                          exact HCl.out⟩, HB4, HMW⟩
                      case measure => simp [intOf]; omega
                  · have hnx0 : ¬ nx < 0 := by omega
                    have hnz : (nx == 65537) = false := by rw [beq_eq_false_iff_ne]; omega
                    have hnx3 : nx ≤ 65536 := by omega
                    clear hneg hnx2
                    obtain ⟨w5, hw5⟩ : ∃ w5, wb.alloc (.cells #[] 3) = w5 := ⟨_, rfl⟩
                    have HMade5 := Aside0.mk (show Made wb (.slice (some ⟨wb.heap.size, 0, none⟩) ([] : List Int).length 0) [] w5 from ⟨⟨_, 0, rfl⟩, by rw [← hw5]; exact Hand.R_lit (enc := Value.int .i64) (h1 := fun _ => rfl) 3 wb.heap.size wb [] (Nat.le_refl _) (by unfold maxLen; simp), by rw [← hw5]; exact below_alloc (Below.refl _ _) _⟩)
                    have r1b : w5.cell? ⟨wi.heap.size, 1, none⟩ = some (.slice B r.length c) := (HMade5.out.bel.cell (World.block_lt_of_cell? _ _ r1)).trans r1
                    clear hb4
                    go_wp2
                    clear hwb hw5 k1 k2 r1b
                    have hw5v : (Value.slice (some (⟨wb.heap.size, 0, none⟩ : Addr)) ([] : List Int).length 0) = .slice (some ⟨wb.heap.size, 0, none⟩) 0 0 := rfl
                    rw [hw5v] at HMade5
                    clear hw5v
                    go_loopw [14, 79] (fun y x' wr => ∃ (u : Value) (k : Nat) (p : List Int), u = y ∧ k ≤ r.length ∧ x' = .int .i64 k ∧ Hid (some p = bldM L W nx (some []) (r.take k)) ∧ p.length ≤ 65536 + k ∧ Aside0 (Made wb u p wr)) (fun _ x' _ => r.length - (intOf x').toNat)
                    case atStart => exact ⟨_, 0, [], rfl, by omega, rfl, Lib.hid rfl, by simp, ⟨HMade5.out⟩⟩
                    case round =>
                      obtain ⟨u, k, p, rfl, hk, rfl, HO, hpl, HMd⟩ := hrel
                      obtain ⟨wk, rfl⟩ : ∃ wo : World, wo = wr := ⟨_, rfl⟩
                      have r0' := (HMd.out.bel.cell (World.block_lt_of_cell? _ _ r0)).trans r0
                      have HBk := Lib.hid (below_next HB4.out HMd.out.bel)
                      have HRk := Lib.hid (HRw4.out.below HMd.out.bel)
                      have HRowk := Lib.hid (HRow.out.belowN HBk.out HGm.out)
                      have hclk := HRowk.out.cell x.toNat (by omega)
                      rw [HNx.out] at hclk
                      have hpr := HRk.out.pr
                      have hpk := HRk.out.pk
                      obtain ⟨ad3, c3', hu⟩ := HMd.out.form
                      subst hu
                      by_cases hkt : k < r.length
                      · obtain ⟨ad2, y, rfl, hcy, HY⟩ := at_scalar (Kd.C_below HR4.out HMd.out.bel) k hkt 0
                        have HYm : Hid (y ∈ r) := Lib.hid (by rw [← HY.out]; exact getD_mem r k 0 hkt)
                        have hy1 : -(g.nonterms.length : Int) ≤ y := (HSy.out y HYm.out).1
                        have hy2 : y < 4611686018427387904 := by have := (HSy.out y HYm.out).2; have := HT60.out; omega
                        have HSn : Hid (bldM L W nx (some []) (r.take (k + 1)) = buildM L W nx (some p) y) := Lib.hid (by rw [take_snocD r k 0 hkt, HY.out, bldM_snoc, ← HO.out])
                        have hp65 : p.length ≤ 65568 := by omega
                        by_cases h0 : 0 ≤ y
                        · have HE : Hid (some (p ++ [y]) = bldM L W nx (some []) (r.take (k + 1))) := Lib.hid (by rw [HSn.out]; simp [buildM, h0])
                          go_wp2_with (first
                            | ((with_reducible refine gate_builtin (b := .append) (xs := #[.tmp 93, .tmp 95]) rfl ?_); at_builtin; refine Kd.R_append (Kd.int .i64) (w0 := wb) wb.heap.size rfl (.tmp 93) (.tmp 95) 38 3 (.int .i64 0) 8 rfl Tryd.underlying38 infoInt rfl (by decide) (by omega) (.slice (some ad3) p.length c3') p y [.int .i64 y] (fun _ => True) (fun _ => False) rfl rfl rfl (fun _ hk => hk.elim) (fun _ _ => trivial) HMd.out.own HMd.out.bel HMd.out.bel.size (by have := hp65; omega) ?_; intro v1 w6 ho hb hg hat; have HM6 := Aside0.mk (Made.next HMd.out ho hb hat); clear ho hb hg hat))
                          go_roundw
                          case rel => exact ⟨v1, k + 1, _, rfl, by omega, by go_num, HE, by simp; omega, ⟨HM6.out⟩⟩
                          case measure => simp [intOf]; omega
                        · have e1 : 0 ≤ -1 - y := by omega
                          have e2 : -1 - y < (g.nonterms.length : Int) := by omega
                          have hcm := HRk.out.rows.row.cell (-1 - y).toNat (by omega)
                          have hkn := HRk.out.known.cell (-1 - y).toNat (by omega)
                          have hl := HRk.out.rows.lst (-1 - y).toNat (by omega)
                          have hcL := HRowk.out.cell (-1 - y).toNat (by omega)
                          cases hW : W (-1 - y).toNat with
                          | none =>
                            rw [hW] at hl hkn
                            have hkn' : wk.cell? ⟨b2, (-1 - y).toNat, none⟩ = some (.bool false) := hkn
                            have HCl : Hid (bldM L W nx (some []) r = none) := Lib.hid (bldM_split r (k + 1) (by rw [HSn.out]; simp [buildM, h0, hW]))
                            clear hl hW hkn hcm hcL
                            go_wp2
                            go_quiet (fail)
                            go_wp2
                            go_roundw
                            case rel => exact ⟨ag, i + 1, V, W, by omega, rfl, by go_num, ⟨HRk.out.drewN _⟩, HSW, ⟨fun h j hj => by
                              rcases Nat.lt_or_ge j i with h' | h'
                              · exact HXW.out h j h'
                              · obtain rfl : j = i := by omega
                                exact HCR.out.2 (fun _ _ q hq _ => by rw [HCl.out] at hq; cases hq)⟩, ⟨pw_below_drewN HBk.out _⟩, HMW⟩
                            case measure => simp [intOf]; omega
                          | some uw =>
                            rw [hW] at hl hkn
                            have hkn' : wk.cell? ⟨b2, (-1 - y).toNat, none⟩ = some (.bool true) := hkn
                            obtain ⟨ad4, c4, f1, f2, f3, f4⟩ := hl
                            rw [f1] at hcm
                            have hlw := (HSW.out _ (by omega) uw hW).2
                            rw [← hlw.1] at hcL
                            have hul : uw.length ≤ 65536 := by omega
                            by_cases hlen : nx < (p.length : Int) + (uw.length : Int)
                            · have HCl : Hid (bldM L W nx (some []) r = none) := Lib.hid (bldM_split r (k + 1) (by rw [HSn.out]; simp [buildM, h0, hW, ← hlw.1, hlen]))
                              clear f1 f2 f3 f4 hW hkn hcm hlw
                              go_wp2
                              go_quiet (fail)
                              go_wp2
                              go_roundw
                              case rel => exact ⟨ag, i + 1, V, W, by omega, rfl, by go_num, ⟨HRk.out.drewN _⟩, HSW, ⟨fun h j hj => by
                                rcases Nat.lt_or_ge j i with h' | h'
                                · exact HXW.out h j h'
                                · obtain rfl : j = i := by omega
                                  exact HCR.out.2 (fun _ _ q hq _ => by rw [HCl.out] at hq; cases hq)⟩, ⟨pw_below_drewN HBk.out _⟩, HMW⟩
                              case measure => simp [intOf]; omega
                            · have HE : Hid (some (p ++ uw) = bldM L W nx (some []) (r.take (k + 1))) := Lib.hid (by rw [HSn.out]; simp [buildM, h0, hW, ← hlw.1, hlen])
                              have HLn : Hid ((p ++ uw).length ≤ 65536 + (k + 1)) := Lib.hid (by rw [List.length_append]; omega)
                              have hsum : (p.length + uw.length) * 8 ≤ 140737488355328 := by omega
                              have HFu := Lib.hid f3
                              clear f1 f2 f3 f4 hW hkn hlw
                              go_wp2
                              go_quiet (fail)
                              have HMd2 := Aside0.mk (HMd.out.drewN nq)
                              have HCu := Lib.hid (Kd.C_below HFu.out (pw_below_drewN (Below.refl _ _) nq))
                              go_wp2_with (first
                                | ((with_reducible refine gate_builtin (b := .append) (xs := #[.tmp 83, .tmp 88]) rfl ?_); at_builtin; refine Kd.R_append_rows (Kd.int .i64) (w0 := wb) wb.heap.size rfl (.tmp 83) (.tmp 88) 38 3 (.int .i64 0) 8 rfl Tryd.underlying38 infoInt rfl (by decide) (by omega) (.slice (some ad3) p.length c3') p uw _ _ _ (fun _ => True) (fun _ => False) rfl rfl HMd2.out.own HCu.out (fun _ _ h => h) (fun _ h => h.elim) (fun _ _ => trivial) HMd2.out.bel HMd2.out.bel.size (by have := hsum; omega) ?_; intro v1 w6 ho hb hg hat; have HM6 := Aside0.mk (Made.next HMd2.out ho hb hat); clear ho hb hg hat))
                              go_roundw
                              case rel => exact ⟨v1, k + 1, _, rfl, by omega, by go_num, HE, HLn.out, ⟨HM6.out⟩⟩
                              case measure => simp [intOf]; omega
                      · have HQ : Hid (bldM L W nx (some []) r = some p) := Lib.hid (by rw [HO.out, List.take_of_length_le (by omega)])
                        have hcx := HRk.out.rows.row.cell x.toNat (by omega)
                        have hfx := HRk.out.rows.row.free x.toNat
                        have hkx := HRk.out.known.cell x.toNat (by omega)
                        have hgx := HRk.out.known.free x.toNat
                        by_cases heq : (p.length : Int) = nx
                        · have heqb : ((p.length : Int) == nx) = true := by rw [beq_iff_eq]; exact heq
                          have HEq := Lib.hid heq
                          have HBt := Lib.hid (better_calls HRk.out hN x hx0' hxN' (some ad3) c3' p (Kd.R_reads' HMd.out.own).2.2)
                          clear heq
                          cases hbt : betterB W x.toNat p
                          · rw [hbt] at HBt
                            have HCl : Hid (∃ u, W x.toNat = some u ∧ cmpL u p ≤ 0) := Lib.hid (by
                              unfold betterB at hbt
                              split at hbt
                              · cases hbt
                              · rename_i u hu
                                refine ⟨u, hu, ?_⟩
                                rw [cmpL_neg]
                                have := of_decide_eq_false hbt
                                omega)
                            clear hbt
                            go_wp2_with (go_at_call 49; refine HBt.out.mono ?_; rintro e w' ⟨rfl, n1, rfl⟩)
                            go_roundw
                            case rel => exact ⟨ag, i + 1, V, W, by omega, rfl, by go_num, ⟨HRk.out.drewN _⟩, HSW, ⟨fun h j hj => by
                              rcases Nat.lt_or_ge j i with h' | h'
                              · exact HXW.out h j h'
                              · obtain rfl : j = i := by omega
                                exact HCR.out.2 (fun _ _ q hq _ => by rw [HQ.out] at hq; obtain rfl := Option.some.inj hq; exact HCl.out)⟩, ⟨pw_below_drewN HBk.out _⟩, HMW⟩
                            case measure => simp [intOf]; omega
                          · rw [hbt] at HBt
                            have HPut : Hid (SoundM g.rules g.nonterms.length L (setW W x.toNat p)) := Lib.hid (HSW.out.set (r := (x, r)) (lim := nx) hRr.out (fun z hz => (HSy.out z hz).1) hx0' HQ.out (by rw [HEq.out, HNx.out]) (by rw [HNx.out]; exact hnx3))
                            have HLi := Lib.hid (HMd.out.list HGb.out.1)
                            have HLi2 := Lib.hid (HMd.out.list HGb.out.2)
                            have HMs : Hid (wmeas g.nonterms.length 65568 (setW W x.toNat p) < wmeas g.nonterms.length 65568 W) := Lib.hid (wmeas_lt (by omega) (by
                              have hd : ∀ q, WD g.rules x.toNat q → ∀ z ∈ q, 0 ≤ z ∧ z < 64 := fun q hq => hq.digits HC.out.right (by have := HT60.out; omega)
                              have hp := (HPut.out x.toNat (by omega) p setW_same).1
                              refine rankW_lt (hd p hp) (by omega) (fun u hu => ?_)
                              obtain ⟨g1, g2, g3⟩ := HSW.out x.toNat (by omega) u hu
                              refine ⟨hd u g1, by omega, .inr ⟨?_, ?_⟩⟩
                              · have := HEq.out; have := HNx.out; omega
                              · unfold betterB at hbt
                                rw [hu] at hbt
                                exact of_decide_eq_true hbt))
                            clear hbt
                            go_wp2_with (go_at_call 49; refine HBt.out.mono ?_; rintro e w' ⟨rfl, n1, rfl⟩)
                            have hset : ((wk.drewN (n1 + 1)).setCell ⟨b, x.toNat, none⟩ (.slice (some ad3) p.length c3')).cell? ⟨b2, x.toNat, none⟩ = some (.bool (W x.toNat).isSome) := by
                              rw [World.cell?_setCell_other _ _ _ _ (by intro e; injection e with e; exact HRk.out.ne.2.2.2.2 e)]
                              exact (HRk.out.drewN (n1 + 1)).known.cell x.toNat (by omega)
                            have hset2 : ((wk.drewN (n1 + 1)).setCell ⟨b, x.toNat, none⟩ (.slice (some ad3) p.length c3')).cell? ⟨b3, 0, none⟩ = some (.slice (some ⟨b2, 0, none⟩) g.nonterms.length g.nonterms.length) := by
                              rw [World.cell?_setCell_other _ _ _ _ (by intro e; injection e with e; exact HRk.out.ne.2.2.1 e.symm)]
                              exact (HRk.out.drewN (n1 + 1)).pk
                            have hset3 : ((wk.drewN (n1 + 1)).setCell ⟨b, x.toNat, none⟩ (.slice (some ad3) p.length c3')).cell? ⟨wi.heap.size, 0, none⟩ = some (.int .i64 x) := by
                              rw [World.cell?_setCell_other _ _ _ _ (by intro e; injection e with e; have := HRw.out.rows.row.lt; omega)]
                              exact ((pw_below_drewN (Below.refl wk.heap.size wk) (n1 + 1)).cell (World.block_lt_of_cell? _ _ r0')).trans r0'
                            go_region
                            go_wp2
                            go_roundw
                            case rel => exact ⟨true, i + 1, _, setW W x.toNat p, by omega, rfl, by go_num, ⟨(HRk.out.drewN _).put (by omega) (HLi.out.below (pw_below_drewN (Below.refl _ _) _)) (HLi2.out.below (pw_below_drewN (Below.refl _ _) _))⟩, ⟨HPut.out⟩, ⟨fun h => by cases h⟩, ⟨((pw_below_drewN HBk.out _).setCell HBq.out.1 _).setCell HBq.out.2 _⟩, ⟨by have := HMW.out; have := HMs.out; simp only [if_true]; omega⟩⟩
                            case measure => simp [intOf]; omega
                        · have heqb : ((p.length : Int) == nx) = false := by rw [beq_eq_false_iff_ne]; exact heq
                          have HEq := Lib.hid heq
                          clear heq
                          go_wp2
                          go_roundw
                          case rel => exact ⟨ag, i + 1, V, W, by omega, rfl, by go_num, ⟨HRk.out⟩, HSW, ⟨fun h j hj => by
                            rcases Nat.lt_or_ge j i with h' | h'
                            · exact HXW.out h j h'
                            · obtain rfl : j = i := by omega
                              exact HCR.out.2 (fun _ _ q hq hl => by rw [HQ.out] at hq; obtain rfl := Option.some.inj hq; exact absurd hl HEq.out)⟩, ⟨HBk.out⟩, HMW⟩
                          case measure => simp [intOf]; omega
                · obtain rfl : i = g.rules.length := by omega
                  go_wp2
                  rw [Exit.noGoto_normal]
                  go_wp2
                  go_roundg (2 * wmeas g.nonterms.length 65568 W + (if ag then 1 else 0))
                  case rel => exact ⟨ag, V, W, rfl, HRw, HSW, HXW, HBW, ⟨rfl⟩⟩
                  case measure => have h1 := HMW.out; have h2 := HM0.out; simp at h2; cases ag <;> simp at h1 ⊢ <;> omega
  · have HOK := Lib.hid hok
    clear hok
    go_enter Tryd.func19, Tryd.ntmps19
    go_wp2_with (go_at_call 35; refine HCk.out.mono ?_; rintro e w2 ⟨u, rfl, hu, hb2⟩; have HU2 := Lib.hid hu; have HB2 := Lib.hid hb2; obtain ⟨T, p, hT, rfl⟩ := hu.iface_of HOK.out; clear hu hb2 hT)
    go_ret2
    exact ⟨_, _, rfl, below_next HB1.out HB2.out, .inl ⟨HOK.out, rfl, HU2.out⟩⟩
end Go.Proofs.YtagcmhnanngfbaaDoor.Hand
