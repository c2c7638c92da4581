/- Contract of dovetailref07.Word. -/
import Derived.Test.YtagcmhnanngfbaaDoorRowsAt
import Derived.Test.YtagcmhnanngfbaaDoorRlen
import Derived.Test.YtagcmhnanngfbaaDoorRight
namespace Go.Proofs.YtagcmhnanngfbaaDoor.Hand
open Go.RowKit Go.Proofs.YtagcmhnanngfbaaDoorW.PrintWords Go.Proofs.YtagcmhnanngfbaaDoorW.PrintMore Go.Proofs.YtagcmhnanngfbaaDoor.Math

/-- What Word tells: the row, or the error's number. -/
def WordTold (g : Gr) (x : Int) (L : Nat → Int) (w' : World) (v : Value) (k : Int) : Prop :=
  (L x.toNat < 0 ∧ v = .slice none 0 0 ∧ k = 15) ∨ (65536 < L x.toNat ∧ v = .slice none 0 0 ∧ k = 12) ∨
  (0 ≤ L x.toNat ∧ L x.toNat ≤ 65536 ∧ k = 0 ∧ ∃ ad c u, WordIs g.rules x.toNat u ∧ v = .slice (some ad) u.length c ∧ Kd.C (Kd.int .i64) w' (some ad) u.length u)
def RWordRes (w0 : World) (g : Gr) (x : Int) (e : Ending) (w' : World) : Prop :=
  ∃ v k, e = .returned (.tuple #[v, .int .i64 k]) ∧ Below w0.heap.size w0 w' ∧
    ((¬ (checkN g).1 = 0 ∧ v = .slice none 0 0 ∧ k = ((checkN g).1 : Nat)) ∨ ((checkN g).1 = 0 ∧ (x < 0 ∨ (g.nonterms.length : Int) ≤ x) ∧ v = .slice none 0 0 ∧ k = 1) ∨
     ((checkN g).1 = 0 ∧ 0 ≤ x ∧ x < g.nonterms.length ∧ ∃ L, LenIs g.rules g.nonterms.length L ∧ WordTold g x L w' v k))
theorem infoInts : (Tryd.prog.info? 38).map (fun i => (i.zero, i.size, i.bytes)) = some (some (.slice none 0 0), 1, 24) := by kernel_rfl
set_option maxHeartbeats 4000000 in
set_option maxRecDepth 100000 in
theorem rword_calls (v : Value) (g : Gr) (x0 : Int) (w : World) (hv : GramAt w v g) :
    Calls Tryd.prog 20 #[v, .int .i64 x0] w fun e w' => RWordRes w g x0 e w' := by
  have HV := Lib.hid hv
  obtain ⟨AT, cT, AN, cN, AR, cR, rfl, q1, q2, q3, q4, q5, q6⟩ := hv
  have hlr := q6.2.1
  have l2 := q5.2.1
  obtain ⟨w1, hw1⟩ : ∃ w1, w.alloc (.cells #[.slice AT g.terms.length cT, .slice AN g.nonterms.length cN, .int .i64 g.ax, .slice AR g.rules.length cR] 25) = w1 := ⟨_, rfl⟩
  have hb1 : Below w.heap.size w w1 := by rw [← hw1]; exact below_alloc (Below.refl _ _) _
  have hk1 : w1.heap[w.heap.size]? = some (.cells #[.slice AT g.terms.length cT, .slice AN g.nonterms.length cN, .int .i64 g.ax, .slice AR g.rules.length cR] 25 (0, 0)) := by rw [← hw1]; exact heap_alloc_new w _
  obtain ⟨c0, c1, c2, c3⟩ := blk_cells2 hk1
  have HB1 := Lib.hid hb1
  have HK1 := Lib.hid hk1
  have HM := Lib.hid (rshortest_calls _ g w1 (HV.out.below hb1))
  have HR := Lib.hid (Kd.C_below q6 hb1)
  clear hb1 hk1 q4 q5 q6
  by_cases hok : (checkN g).1 = 0
  · have HC := Lib.hid (GOk.of hok)
    have HM2 : Hid (Calls Tryd.prog 18 _ w1 fun e w' => ∃ gl L, e = .returned (.tuple #[.slice (some ⟨gl, 0, none⟩) g.nonterms.length g.nonterms.length, .int .i64 0]) ∧ Row w' gl g.nonterms.length (fun q => .int .i64 (L q)) ∧ LenIs g.rules g.nonterms.length L ∧ Below w1.heap.size w1 w') := Lib.hid (HM.out.mono (by
      rintro e w' (⟨h1, h2, _⟩ | ⟨gl, L, h1, h2, h3, h4, h5, h6⟩)
      · exact absurd hok h2
      · exact ⟨gl, L, h1, h3, h4, h6⟩))
    have HOK := Lib.hid hok
    clear hok HM
    have hN : g.nonterms.length ≤ 60 := by have := HC.out.size; omega
    by_cases hx : x0 < 0 ∨ (g.nonterms.length : Int) ≤ x0
    · have hcase : x0 < 0 ∨ (¬ x0 < 0 ∧ (g.nonterms.length : Int) ≤ x0) := by omega
      have HX := Lib.hid hx
      clear hx
      rcases hcase with hcase | ⟨hcase, hcase2⟩
      all_goals
        go_enter Tryd.func20, Tryd.ntmps20
        go_wp2_with (go_at_call 18; refine HM2.out.mono ?_; rintro e w2 ⟨gl, L, rfl, hrow, hL, hb2⟩; have HB2 := Lib.hid hb2; clear hrow hL hb2)
        go_ret2
        exact ⟨_, _, rfl, below_next HB1.out HB2.out, .inr (.inl ⟨HOK.out, HX.out, rfl, rfl⟩)⟩
    · have hx0 : 0 ≤ x0 := by omega
      have hxN : x0 < (g.nonterms.length : Int) := by omega
      clear hx
      have hr120 := HC.out.rules
      have hmk : ∀ W : World, (Instr.makeSlice 61 (.int .i64 ((g.nonterms.length : Nat) : Int)) (.int .i64 ((g.nonterms.length : Nat) : Int))).run Tryd.prog W = .ok (.slice (some ⟨W.heap.size, 0, none⟩) g.nonterms.length g.nonterms.length) (W.alloc (.cells (madeCells #[.slice none 0 0] g.nonterms.length) 38)) :=
        print_make_of (P := Tryd.prog) 61 38 (.slice none 0 0) 24 rfl infoInts rfl (by decide) g.nonterms.length (by omega)
      go_enter Tryd.func20, Tryd.ntmps20
      go_upto_region 6 with (go_at_call 18; refine HM2.out.mono ?_; rintro e w2 ⟨gl, L, rfl, hrow, hL, hb2⟩; have HRow2 := Lib.hid hrow; have HL := Lib.hid hL; have HB2 := Lib.hid hb2; clear hrow hL hb2)
      have hcell := HRow2.out.cell x0.toNat (by omega)
      obtain ⟨n0, hn0⟩ : ∃ n, L x0.toNat = n := ⟨_, rfl⟩
      rw [hn0] at hcell
      have HN0 := Lib.hid hn0
      clear hn0 hw1 c0 c1 c2 c3
      by_cases hneg : n0 < 0
      · go_wp2
        go_ret2
        exact ⟨_, _, rfl, below_next HB1.out HB2.out, .inr (.inr ⟨HOK.out, hx0, hxN, L, HL.out, .inl ⟨by rw [HN0.out]; exact hneg, rfl, rfl⟩⟩)⟩
      · by_cases hbig : 65536 < n0
        · go_wp2
          go_ret2
          exact ⟨_, _, rfl, below_next HB1.out HB2.out, .inr (.inr ⟨HOK.out, hx0, hxN, L, HL.out, .inr (.inl ⟨by rw [HN0.out]; exact hbig, rfl, rfl⟩)⟩)⟩
        · go_wp2
          obtain ⟨w3, hw3⟩ : ∃ w3, w2.alloc (.cells (madeCells #[.slice none 0 0] g.nonterms.length) 38) = w3 := ⟨_, rfl⟩
          rw [hw3]
          have HRows3 := Aside0.mk (show RowsAt w3 w2.heap.size g.nonterms.length (fun _ => .slice none 0 0) (fun _ => none) from ⟨by rw [← hw3]; exact Row.made w2 _ _ _, fun k hk => rfl⟩)
          have HB3 := Aside0.mk (show Below w1.heap.size w1 w3 by rw [← hw3]; exact below_next HB2.out (below_alloc (Below.refl _ _) _))
          obtain ⟨gr, hgr⟩ : ∃ gr, w2.heap.size = gr := ⟨_, rfl⟩
          rw [hgr] at HRows3 ⊢
          have HGr : Hid (w1.heap.size ≤ gr) := Lib.hid (by rw [← hgr]; exact HB2.out.size)
          clear hw3 hmk hgr hcell
          go_loopg [9] (2 * wmeas g.nonterms.length 65568 (fun _ => none) + 1) (fun m v wr => ∃ (again : Bool) (V : Nat → Value) (W : Nat → Option (List Int)), v = .bool again ∧ Aside0 (RowsAt wr gr g.nonterms.length V W) ∧ Aside0 (SoundW g.rules g.nonterms.length 65568 W) ∧ Aside0 (again = false → ∀ i, i < g.rules.length → CRw g.rules W i) ∧ Aside0 (Below w1.heap.size w1 wr) ∧ Aside0 (m = 2 * wmeas g.nonterms.length 65568 W + (if again then 1 else 0)))
          case atStart => exact ⟨true, _, fun _ => none, rfl, HRows3, ⟨fun k hk w h => by cases h⟩, ⟨fun h => by cases h⟩, HB3, ⟨rfl⟩⟩
          case round =>
            obtain ⟨again, V0, W0, rfl, HRw0, HS0, HX0, HB0, HM0⟩ := hrel
            obtain ⟨wo, rfl⟩ : ∃ wo : World, wo = wr := ⟨_, rfl⟩
            cases again
            · have hd0 := HL.out.1 x0.toNat (by omega)
              have HLeast : Hid (∃ u, W0 x0.toNat = some u ∧ WordIs g.rules x0.toNat u) := Lib.hid (by
                obtain ⟨u, hu, he⟩ := hd0.2.2 (by rw [HN0.out]; exact hneg)
                rw [HN0.out] at he
                exact CRw.least HS0.out (HX0.out rfl) (by omega) hu (by unfold capL at he; split at he <;> omega))
              obtain ⟨u, hu, hwi⟩ := HLeast.out
              have hl := HRw0.out.lst x0.toNat (by omega)
              have hcv := HRw0.out.row.cell x0.toNat (by omega)
              rw [hu] at hl
              obtain ⟨ad, c, e1, e2, e3, e4⟩ := hl
              rw [e1] at hcv
              have HWi := Lib.hid hwi
              have HCv := Lib.hid e3
              clear hd0 hu hwi e1 e2 e3 e4
              go_wp2
              go_ret2
              exact ⟨_, _, rfl, below_next HB1.out HB0.out, .inr (.inr ⟨HOK.out, hx0, hxN, L, HL.out, .inr (.inr ⟨by rw [HN0.out]; omega, by rw [HN0.out]; omega, rfl, ad, c, u, HWi.out, rfl, HCv.out⟩)⟩)⟩
            · go_wp2
              go_loopw [9, 10] (fun a x wr => ∃ (ag : Bool) (i : Nat) (V : Nat → Value) (W : Nat → Option (List Int)), i ≤ g.rules.length ∧ a = .bool ag ∧ x = .int .i64 i ∧ Aside0 (RowsAt wr gr g.nonterms.length V W) ∧ Aside0 (SoundW g.rules g.nonterms.length 65568 W) ∧ Aside0 (ag = false → ∀ j, j < i → CRw g.rules W j) ∧ Aside0 (Below w1.heap.size w1 wr) ∧ Aside0 (wmeas g.nonterms.length 65568 W + (if ag then 1 else 0) ≤ wmeas g.nonterms.length 65568 W0)) (fun _ x _ => g.rules.length - (intOf x).toNat)
              case atStart => exact ⟨false, 0, V0, W0, by omega, rfl, rfl, HRw0, HS0, ⟨fun _ j h => by omega⟩, HB0, ⟨by simp⟩⟩
              case round =>
                obtain ⟨ag, i, V, W, hi, rfl, rfl, HRw, HSW, HXW, HBW, HMW⟩ := hrel
                obtain ⟨wi, rfl⟩ : ∃ wo : World, wo = wr := ⟨_, rfl⟩
                obtain ⟨c0, c1, c2, c3⟩ := blk_cells2 (gblk_keep' HK1.out HBW.out)
                by_cases hlt : i < g.rules.length
                · obtain ⟨ad, x, B, c, r, rfl, k1, k2, hrc, hr, HD⟩ := at_rule (Kd.C_below HR.out HBW.out) i hlt
                  have hRr : Hid ((x, r) ∈ g.rules) := Lib.hid (by rw [← HD.out]; exact getD_mem g.rules i _ hlt)
                  have hx0' : 0 ≤ x := (HC.out.right.left hRr.out).1
                  have hxN' : x < g.nonterms.length := (HC.out.right.left hRr.out).2
                  have hr32 : r.length ≤ 32 := ruleN_len (HC.out.right (x, r) hRr.out)
                  obtain ⟨wb, hwb⟩ : ∃ w4, wi.alloc (.cells #[.int .i64 x, .slice B r.length c] 56) = w4 := ⟨_, rfl⟩
                  have hb4 : Below wi.heap.size wi wb := by rw [← hwb]; exact below_alloc (Below.refl _ _) _
                  have r0 : wb.cell? ⟨wi.heap.size, 0, none⟩ = some (.int .i64 x) := by rw [← hwb]; simp [go_sem]
                  have r1 : wb.cell? ⟨wi.heap.size, 1, none⟩ = some (.slice B r.length c) := by rw [← hwb]; simp [go_sem]
                  have hsz : wb.heap.size = wi.heap.size + 1 := by rw [← hwb]; exact World.size_alloc _ _
                  have HSz := Lib.hid hsz
                  have HB4 := Aside0.mk (below_next HBW.out hb4)
                  have HRw4 := Aside0.mk (HRw.out.below hb4)
                  have HR4 := Lib.hid (Kd.C_below hr hb4)
                  have HGb : Hid (gr < wb.heap.size) := Lib.hid HRw4.out.row.lt
                  have HSy := Lib.hid (fun s (hs : s ∈ r) => HC.out.right.sym hRr.out hs)
                  have HT60 := Lib.hid HC.out.size
                  obtain ⟨w5, hw5⟩ : ∃ w5, wb.alloc (.cells #[] 3) = w5 := ⟨_, rfl⟩
                  have HMade5 := Aside0.mk (show Made wb (.slice (some ⟨wb.heap.size, 0, none⟩) ([] : List Int).length 0) [] w5 from ⟨⟨_, 0, rfl⟩, by rw [← hw5]; exact Hand.R_lit (enc := Value.int .i64) (h1 := fun _ => rfl) 3 wb.heap.size wb [] (Nat.le_refl _) (by unfold maxLen; simp), by rw [← hw5]; exact below_alloc (Below.refl _ _) _⟩)
                  clear hr hb4 hsz
                  go_wp2
                  clear hwb hw5 c0 c1 c2 c3 k1 k2
                  have HCR : Hid (CRw g.rules W i ↔ ∀ q, bldA W (some []) r = some q → q.length ≤ 65536 → ∃ u, W x.toNat = some u ∧ sle u q) := Lib.hid (by unfold CRw; rw [HD.out])
                  have hw5v : (Value.slice (some (⟨wb.heap.size, 0, none⟩ : Addr)) ([] : List Int).length 0) = .slice (some ⟨wb.heap.size, 0, none⟩) 0 0 := rfl
                  rw [hw5v] at HMade5
                  clear hw5v
                  go_loopw [12, 13] (fun y x' wr => ∃ (u : Value) (k : Nat) (o : Option (List Int)), u = y ∧ k ≤ r.length ∧ x' = .int .i64 k ∧ Hid (o = bldA W (some []) (r.take k)) ∧ Aside0 (Below wb.heap.size wb wr) ∧ Aside0 ((o = none ∧ u = .slice none 0 0) ∨ ∃ p, o = some p ∧ p.length ≤ 65536 + k ∧ Made wb u p wr)) (fun _ x' _ => r.length - (intOf x').toNat)
                  case atStart => exact ⟨_, 0, some [], rfl, by omega, rfl, Lib.hid rfl, ⟨HMade5.out.bel⟩, ⟨.inr ⟨[], rfl, by simp, HMade5.out⟩⟩⟩
                  case round =>
                    obtain ⟨u, k, o, rfl, hk, rfl, HO, HBb, HDis⟩ := hrel
                    obtain ⟨wk, rfl⟩ : ∃ wo : World, wo = wr := ⟨_, rfl⟩
                    have r0' := (HBb.out.cell (World.block_lt_of_cell? _ _ r0)).trans r0
                    have r1' := (HBb.out.cell (World.block_lt_of_cell? _ _ r1)).trans r1
                    have HBk := Lib.hid (below_next HB4.out HBb.out)
                    have HRk := Lib.hid (HRw4.out.below HBb.out)
                    rcases HDis.out with ⟨rfl, rfl⟩ | ⟨p, rfl, hpl, hmade⟩
                    · have HCl : Hid (∀ q, bldA W (some []) r = some q → q.length ≤ 65536 → ∃ u, W x.toNat = some u ∧ sle u q) := Lib.hid (fun q hq => by rw [bldA_split r k HO.out.symm] at hq; cases hq)
                      by_cases hkt : k < r.length
                      all_goals
                        go_wp2
                        go_roundw
                        case rel => exact ⟨ag, i + 1, V, W, by omega, rfl, by go_num, ⟨HRk.out⟩, HSW, ⟨fun h j hj => by
                        rcases Nat.lt_or_ge j i with h' | h'
                        · exact HXW.out h j h'
                        · obtain rfl : j = i := by omega
                          exact HCR.out.2 HCl.out⟩, ⟨HBk.out⟩, HMW⟩
                        case measure => simp [intOf]; omega
                    · have HMd := Aside0.mk hmade
                      obtain ⟨ad3, c3', hu⟩ := hmade.form
                      clear hmade HDis
                      subst hu
                      by_cases hkt : k < r.length
                      · obtain ⟨ad2, y, rfl, hcy, HY⟩ := at_scalar (Kd.C_below HR4.out HBb.out) k hkt 0
                        have HYm : Hid (y ∈ r) := Lib.hid (by rw [← HY.out]; exact getD_mem r k 0 hkt)
                        have hy1 : -(g.nonterms.length : Int) ≤ y := (HSy.out y HYm.out).1
                        have hy2 : y < 4611686018427387904 := by have := (HSy.out y HYm.out).2; have := HT60.out; omega
                        have HSn : Hid (bldA W (some []) (r.take (k + 1)) = buildR W (some p) y) := Lib.hid (by rw [take_snocD r k 0 hkt, HY.out, bldA_snoc, ← HO.out])
                        have hp65 : p.length ≤ 65568 := by omega
                        by_cases h0 : 0 ≤ y
                        · have HE : Hid (some (p ++ [y]) = bldA W (some []) (r.take (k + 1))) := Lib.hid (by rw [HSn.out]; simp [buildR, h0])
                          go_wp2_with (first
                            | ((with_reducible refine gate_builtin (b := .append) (xs := #[.tmp 76, .tmp 78]) rfl ?_); at_builtin; refine Kd.R_append (Kd.int .i64) (w0 := wb) wb.heap.size rfl (.tmp 76) (.tmp 78) 38 3 (.int .i64 0) 8 rfl Tryd.underlying38 infoInt rfl (by decide) (by omega) (.slice (some ad3) p.length c3') p y [.int .i64 y] (fun _ => True) (fun _ => False) rfl rfl rfl (fun _ hk => hk.elim) (fun _ _ => trivial) HMd.out.own HMd.out.bel HMd.out.bel.size (by have := hp65; omega) ?_; intro v1 w6 ho hb hg hat; have HM6 := Aside0.mk (Made.next HMd.out ho hb hat); clear ho hb hg hat))
                          go_roundw
                          case rel => exact ⟨v1, k + 1, _, rfl, by omega, by go_num, HE, ⟨HM6.out.bel⟩, ⟨.inr ⟨_, rfl, by simp; omega, HM6.out⟩⟩⟩
                          case measure => simp [intOf]; omega
                        · have e1 : 0 ≤ -1 - y := by omega
                          have e2 : -1 - y < (g.nonterms.length : Int) := by omega
                          have hcm := HRk.out.row.cell (-1 - y).toNat (by omega)
                          have hl := HRk.out.lst (-1 - y).toNat (by omega)
                          cases hW : W (-1 - y).toNat with
                          | none =>
                            rw [hW] at hl
                            have hl' : V (-1 - y).toNat = .slice none 0 0 := hl
                            rw [hl'] at hcm
                            have HE : Hid (none = bldA W (some []) (r.take (k + 1))) := Lib.hid (by rw [HSn.out]; simp [buildR, h0, hW])
                            clear hl hl' hW
                            go_wp2
                            go_roundw
                            case rel => exact ⟨_, k + 1, none, rfl, by omega, by go_num, HE, HBb, ⟨.inl ⟨rfl, rfl⟩⟩⟩
                            case measure => simp [intOf]; omega
                          | some uw =>
                            rw [hW] at hl
                            obtain ⟨ad4, c4, f1, f2, f3, f4⟩ := hl
                            rw [f1] at hcm
                            have HCu := Lib.hid f3
                            have hul : uw.length ≤ 65568 := (HSW.out _ (by omega) uw hW).2
                            by_cases hlen : p.length + uw.length > 65536
                            · have HE : Hid (none = bldA W (some []) (r.take (k + 1))) := Lib.hid (by rw [HSn.out]; simp [buildR, h0, hW, hlen])
                              have hlI : (65536 : Int) < (p.length : Int) + (uw.length : Int) := by omega
                              clear f1 f2 f3 f4 hW hlen
                              go_wp2
                              go_roundw
                              case rel => exact ⟨_, k + 1, none, rfl, by omega, by go_num, HE, HBb, ⟨.inl ⟨rfl, rfl⟩⟩⟩
                              case measure => simp [intOf]; omega
                            · have HE : Hid (some (p ++ uw) = bldA W (some []) (r.take (k + 1))) := Lib.hid (by rw [HSn.out]; simp [buildR, h0, hW, hlen])
                              have hlI : ¬ (65536 : Int) < (p.length : Int) + (uw.length : Int) := by omega
                              have HLn : Hid ((p ++ uw).length ≤ 65536 + (k + 1)) := Lib.hid (by rw [List.length_append]; omega)
                              have hsum : (p.length + uw.length) * 8 ≤ 140737488355328 := by omega
                              clear f1 f2 f3 f4 hW hlen
                              go_wp2_with (first
                                | ((with_reducible refine gate_builtin (b := .append) (xs := #[.tmp 98, .tmp 103]) rfl ?_); at_builtin; refine Kd.R_append_rows (Kd.int .i64) (w0 := wb) wb.heap.size rfl (.tmp 98) (.tmp 103) 38 3 (.int .i64 0) 8 rfl Tryd.underlying38 infoInt rfl (by decide) (by omega) (.slice (some ad3) p.length c3') p uw _ _ _ (fun _ => True) (fun _ => False) rfl rfl HMd.out.own HCu.out (fun _ _ h => h) (fun _ h => h.elim) (fun _ _ => trivial) HMd.out.bel HMd.out.bel.size (by have := hsum; omega) ?_; intro v1 w6 ho hb hg hat; have HM6 := Aside0.mk (Made.next HMd.out ho hb hat); clear ho hb hg hat))
                              go_roundw
                              case rel => exact ⟨v1, k + 1, _, rfl, by omega, by go_num, HE, ⟨HM6.out.bel⟩, ⟨.inr ⟨_, rfl, HLn.out, HM6.out⟩⟩⟩
                              case measure => simp [intOf]; omega
                      · have HQ : Hid (bldA W (some []) r = some p) := Lib.hid (by rw [HO.out, List.take_of_length_le (by omega)])
                        have hcx := HRk.out.row.cell x.toNat (by omega)
                        have hfx := HRk.out.row.free x.toNat
                        have hl := HRk.out.lst x.toNat (by omega)
                        have HPD : Hid ((∀ z ∈ p, 0 ≤ z ∧ z < 64) ∧ p.length ≤ 65568) := Lib.hid (by
                          obtain ⟨w', hw', e⟩ := bldA_sound HSW.out (fun z hz => (HSy.out z hz).1) HQ.out
                          rw [List.nil_append] at e
                          subst e
                          exact ⟨WD.digits (k := x.toNat) HC.out.right (by have := HT60.out; omega) ⟨(x, r), hRr.out, (Int.toNat_of_nonneg hx0').symm, hw'⟩, by omega⟩)
                        have HLi := Lib.hid (HMd.out.list HGb.out)
                        have HPut : Hid (SoundW g.rules g.nonterms.length 65568 (setW W x.toNat p)) := Lib.hid (HSW.out.set (r := (x, r)) hRr.out (fun z hz => (HSy.out z hz).1) hx0' HQ.out (by show 65536 + r.length ≤ 65568; omega))
                        cases hW : W x.toNat with
                        | none =>
                          rw [hW] at hl
                          have hl' : V x.toNat = .slice none 0 0 := hl
                          rw [hl'] at hcx
                          have HMs : Hid (wmeas g.nonterms.length 65568 (setW W x.toNat p) < wmeas g.nonterms.length 65568 W) := Lib.hid (wmeas_lt (by omega) (by rw [hW]; exact rankW_lt HPD.out.1 HPD.out.2 (fun u h => by cases h)))
                          clear hl hl' hW
                          go_wp2
                          go_roundw
                          case rel => exact ⟨true, i + 1, _, setW W x.toNat p, by omega, rfl, by go_num, ⟨HRk.out.put (by omega) HLi.out⟩, ⟨HPut.out⟩, ⟨fun h => by cases h⟩, ⟨HBk.out.setCell HGr.out _⟩, ⟨by have := HMW.out; have := HMs.out; simp only [if_true]; omega⟩⟩
                          case measure => simp [intOf]; omega
                        | some uw =>
                          rw [hW] at hl
                          obtain ⟨ad4, c4, f1, f2, f3, f4⟩ := hl
                          rw [f1] at hcx
                          have HAh := Lib.hid (ahead_calls (some ad3) (some ad4) c3' c4 p uw wk (Kd.R_reads' HMd.out.own).2.2 f3)
                          have HUD : Hid ((∀ z ∈ uw, 0 ≤ z ∧ z < 64) ∧ uw.length ≤ 65568) := Lib.hid (by
                            have := HSW.out _ (by omega) uw hW
                            exact ⟨this.1.digits HC.out.right (by have := HT60.out; omega), this.2⟩)
                          have HWx := Lib.hid hW
                          clear f1 f2 f3 f4 hW
                          cases hb : tb (p.length < uw.length ∨ p.length = uw.length ∧ cmpL p uw < 0)
                          · rw [hb] at HAh
                            have HCl : Hid (∀ q, bldA W (some []) r = some q → q.length ≤ 65536 → ∃ u, W x.toNat = some u ∧ sle u q) := Lib.hid (fun q hq _ => by
                              rw [HQ.out] at hq
                              obtain rfl := Option.some.inj hq
                              refine ⟨uw, HWx.out, ?_⟩
                              have hn : ¬ (p.length < uw.length ∨ p.length = uw.length ∧ cmpL p uw < 0) := fun h => by rw [tb_yes h] at hb; cases hb
                              by_cases h1 : uw.length < p.length
                              · exact .inl h1
                              · have h2 : p.length = uw.length := by
                                  have := fun h => hn (.inl h)
                                  omega
                                refine .inr ⟨h2.symm, ?_⟩
                                rw [cmpL_neg]
                                have h3 : ¬ cmpL p uw < 0 := fun h => hn (.inr ⟨h2, h⟩)
                                omega)
                            clear hb
                            go_wp2_with (go_at_call 51; refine HAh.out.mono ?_; rintro e w' ⟨rfl, n1, rfl⟩)
                            go_roundw
                            case rel => exact ⟨ag, i + 1, V, W, by omega, rfl, by go_num, ⟨HRk.out.below (pw_below_drewN (Below.refl _ _) _)⟩, HSW, ⟨fun h j hj => by
                        rcases Nat.lt_or_ge j i with h' | h'
                        · exact HXW.out h j h'
                        · obtain rfl : j = i := by omega
                          exact HCR.out.2 HCl.out⟩, ⟨pw_below_drewN HBk.out _⟩, HMW⟩
                            case measure => simp [intOf]; omega
                          · rw [hb] at HAh
                            have HMs : Hid (wmeas g.nonterms.length 65568 (setW W x.toNat p) < wmeas g.nonterms.length 65568 W) := Lib.hid (wmeas_lt (by omega) (by
                              rw [HWx.out]
                              exact rankW_lt HPD.out.1 HPD.out.2 (fun u h => by obtain rfl := Option.some.inj h; exact ⟨HUD.out.1, HUD.out.2, tb_iff.1 hb⟩)))
                            clear hb
                            go_wp2_with (go_at_call 51; refine HAh.out.mono ?_; rintro e w' ⟨rfl, n1, rfl⟩)
                            go_roundw
                            case rel => exact ⟨true, i + 1, _, setW W x.toNat p, by omega, rfl, by go_num, ⟨(HRk.out.below (pw_below_drewN (Below.refl _ _) _)).put (by omega) (HLi.out.below (pw_below_drewN (Below.refl _ _) _))⟩, ⟨HPut.out⟩, ⟨fun h => by cases h⟩, ⟨(pw_below_drewN HBk.out _).setCell HGr.out _⟩, ⟨by have := HMW.out; have := HMs.out; simp only [if_true]; omega⟩⟩
                            case measure => simp [intOf]; omega
                · obtain rfl : i = g.rules.length := by omega
                  go_wp2
                  go_roundg (2 * wmeas g.nonterms.length 65568 W + (if ag then 1 else 0))
                  case rel => exact ⟨ag, V, W, rfl, HRw, HSW, HXW, HBW, ⟨rfl⟩⟩
                  case measure => have h1 := HMW.out; have h2 := HM0.out; simp at h2; cases ag <;> simp at h1 ⊢ <;> omega
  · have HM2 : Hid (Calls Tryd.prog 18 _ w1 fun e w' => e = .returned (.tuple #[.slice none 0 0, .int .i64 ((checkN g).1 : Nat)]) ∧ Below w1.heap.size w1 w') := Lib.hid (HM.out.mono (by
      rintro e w' (⟨h1, _, h3⟩ | ⟨gl, L, h1, h2, _⟩)
      · exact ⟨h1, h3⟩
      · exact absurd h2 hok))
    have HOK := Lib.hid hok
    have hk0 : (((checkN g).1 : Int) == 0) = false := by rw [beq_eq_false_iff_ne]; omega
    clear hok HM
    go_enter Tryd.func20, Tryd.ntmps20
    go_wp2_with (go_at_call 18; refine HM2.out.mono ?_; rintro e w2 ⟨rfl, hb2⟩; have HB2 := Lib.hid hb2; clear hb2)
    go_ret2
    exact ⟨_, _, rfl, below_next HB1.out HB2.out, .inl ⟨HOK.out, rfl, rfl⟩⟩
end Go.Proofs.YtagcmhnanngfbaaDoor.Hand
