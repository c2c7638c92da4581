/- The texts that the statement's proof stands on, part 2: XApart XOpen XOwn01. -/
import Derived.Test.YtljoadhoicjjgaaDoorZSetsOwn1
import Derived.Test.YtljoadhoicjjgaaDoorWSized
import Derived.Test.YtljoadhoicjjgaaDoorRows
import Derived.OpenShut
import Derived.ProofKit
import Derived.ChangeOld
import Derived.SizedLaws
import Derived.ShutString
import Derived.LaidSub
import Derived.LaidMore
import Derived.Stop.Joined
import Derived.Lib.LaidTab
/- dovetailkit.ApartInts, ApartSets: lists with memory of their own share none. -/
namespace Go.Proofs.YtljoadhoicjjgaaDoor.Hand
open Go.RowKit Go.Proofs.YtljoadhoicjjgaaDoorW.PrintWords Go.Proofs.YtljoadhoicjjgaaDoorW.PrintMore Go.Proofs.YtljoadhoicjjgaaDoor.Math

theorem infoIntss : (Tryd.prog.info? 25).map (fun i => (i.zero, i.size, i.bytes)) = some (some (.slice none 0 0), 1, 24) := by kernel_rfl
set_option maxHeartbeats 4000000 in
set_option maxRecDepth 100000 in
theorem apartInts_calls (A : Option Addr) (c : Nat) (H : List Hd) (w : World) (hp : ApPre w A H) :
    Calls Tryd.prog 15 #[.slice A H.length c] w fun e w' => e = .returned (.bool true) ∧ Chg (ApS H) w w' := by
  have HP := Lib.hid hp
  have hlen := hp.len
  clear hp
  go_enter Tryd.func15, Tryd.ntmps15
  go_wp2
  go_loopw [3, 4] (fun a _ wr => ∃ (j : Nat), j ≤ H.length ∧ a = .int .i64 j ∧ Hid (Ap1 .i64 w H j 0 wr)) (fun a _ _ => H.length - (intOf a).toNat)
  case atStart => exact ⟨0, by omega, rfl, Lib.hid (Ap1.start _ HP.out)⟩
  case round =>
    obtain ⟨j, hj, rfl, HS⟩ := hrel
    obtain ⟨wo, rfl⟩ : ∃ wo : World, wo = wr := ⟨_, rfl⟩
    by_cases hlt : j < H.length
    · obtain ⟨ad, rfl, hc⟩ := HP.out.head HS.out.chg hlt
      have hsh := HP.out.short j hlt
      obtain ⟨hd, hhd⟩ : ∃ h, hdD H j = h := ⟨_, rfl⟩
      have hok0 := HP.out.ok j hlt
      rw [hhd] at hc hsh hok0
      have HD := Lib.hid hhd
      clear hhd
      obtain ⟨yad, n, cc⟩ := hd
      have HOK0 := Lib.hid hok0
      simp only [Hd.v] at hc
      simp only at hsh
      clear hok0
      go_wp2
      clear hc
      go_loopw [4] (fun a wr => ∃ (q : Nat), q ≤ n ∧ a = .int .i64 q ∧ Hid (Ap1 .i64 w H j q wr)) (fun a _ => n - (intOf a).toNat)
      case atStart => exact ⟨0, by omega, rfl, HS⟩
      case round =>
        obtain ⟨q, hq, rfl, HS1⟩ := hrel
        obtain ⟨ad', ha', hc⟩ := HP.out.head HS1.out.chg hlt
        obtain rfl := Option.some.inj ha'
        rw [HD.out] at hc
        simp only [Hd.v] at hc
        by_cases hql : q < n
        · have hok := HS1.out.ok j hlt
          rw [HD.out] at hok
          rcases hok.form with e | ⟨g, o, n', c', e, hnc, hcell, hfr⟩
          · injection e with _ e _; omega
          · injection e with e1 e2 e3
            subst e1 e2 e3
            obtain ⟨y0, hy0⟩ := hcell q (by omega)
            have hf0 := hfr (o + q)
            have HNX := Lib.hid (HS1.out.put HP.out hlt (by rw [HD.out]; exact hql) (by rw [HD.out]))
            clear hok hcell hfr ha'
            go_wp2
            go_roundw
            case rel => exact ⟨q + 1, by omega, by go_num, HNX⟩
            case measure => simp [intOf]; omega
        · obtain rfl : q = n := by omega
          clear ha'
          go_wp2
          go_roundw
          case rel => exact ⟨j + 1, by omega, by go_num, Lib.hid (Ap1.next (by rw [HD.out]; exact HS1.out))⟩
          case measure => simp [intOf]; omega
    · obtain rfl : j = H.length := by omega
      have HS3 := Lib.hid (Ap2.start (T := 25) (A := A) HS.out)
      clear HS
      go_wp2
      go_loopw [5, 6, 7, 8] (fun uu a _ _ wr => ∃ (j : Nat) (M : List Hd) (u : Value), j ≤ H.length ∧ a = .int .i64 j ∧ u = uu ∧ Hid (Ap2 .i64 25 w A H j M u wr)) (fun _ a _ _ _ => H.length - (intOf a).toNat)
      case atStart => exact ⟨0, [], _, by omega, rfl, rfl, HS3⟩
      case round =>
        obtain ⟨j, M, u, hj, rfl, rfl, HS⟩ := hrel
        obtain ⟨wo, rfl⟩ : ∃ wo : World, wo = wr := ⟨_, rfl⟩
        by_cases hlt : j < H.length
        · obtain ⟨ad, rfl, hc⟩ := HP.out.head HS.out.chg hlt
          have hsh := HP.out.short j hlt
          have hi0 := ApI.start HS.out hlt
          obtain ⟨h0, hh0⟩ : ∃ h, hdD H j = h := ⟨_, rfl⟩
          rw [hh0] at hi0 hc hsh
          have HI0 := Lib.hid hi0
          have HH0 := Lib.hid hh0
          clear hi0 hh0
          simp only [Hd.v] at hc
          have hML := HS.out.len
          have HML := Lib.hid hML
          clear hML
          go_wp2
          go_loopw [7, 8] (fun lv a wr => ∃ (q : Nat) (l : Hd), q ≤ 30 ∧ a = .int .i64 q ∧ lv = .slice l.ad l.n l.c ∧ Hid (ApI .i64 wo H j q l wr)) (fun _ a _ => 30 - (intOf a).toNat)
          case atStart => exact ⟨0, _, by omega, rfl, rfl, HI0⟩
          case round =>
            obtain ⟨q, l, hq, rfl, rfl, HI⟩ := hrel
            have hln := HI.out.n
            rw [HH0.out] at hln
            have hln1 : (l.n + 1) * 8 ≤ 140737488355328 := by omega
            have HLN := Lib.hid hln1
            have HWS := Lib.hid (Nat.le_trans HS.out.chg.size HI.out.chg.size)
            clear hln hln1
            by_cases hql : q < 30
            · go_wp2_with ((with_reducible refine gate_builtin (b := .append) (xs := #[.tmp 52, .tmp 58]) rfl ?_); at_builtin; refine wp_app rfl (.tmp 52) (.tmp 58) 25 3 (.int .i64 0) 8 rfl Tryd.underlying25 infoInt rfl (by decide) l _ rfl rfl rfl HI.out.ok HLN.out ?_; intro l1 w1 hr; have HR := Lib.hid (HI.out.step HP.out HS.out.chg.size hlt hr); clear hr)
              go_roundw
              case rel => exact ⟨q + 1, l1, by omega, by go_num, rfl, HR⟩
              case measure => simp [intOf]; omega
            · obtain rfl : q = 30 := by omega
              have HMo := Lib.hid (HI.out.more HP.out hlt HS.out)
              go_wp2_with ((with_reducible refine gate_builtin (b := .append) (xs := #[.tmp 60, .tmp 62]) rfl ?_); at_builtin; go_loud (refine Kd.R_append KH (w0 := wr) w.heap.size rfl (.tmp 60) (.tmp 62) 37 25 (.slice none 0 0) 24 rfl Tryd.underlying37 infoIntss rfl (by decide) (by omega) u M l [.slice l.ad l.n l.c] (fun _ => True) (fun _ => False) rfl rfl rfl (fun _ hk => hk.elim) (fun _ _ => trivial) HMo.out (Below.refl _ _) HWS.out (by have := HML.out; omega) ?_); intro v1 w1 ho hb hg hat; (have HR := Lib.hid (Ap2.next HP.out hlt HS.out HI.out ho hg hat); clear ho hb hg hat))
              go_roundw
              case rel => exact ⟨j + 1, _, _, by omega, by go_num, rfl, HR⟩
              case measure => simp [intOf]; omega
        · obtain rfl : j = H.length := by omega
          obtain ⟨B, c2, rfl⟩ := Kd.R_slice HS.out.more
          have hML := HS.out.len
          obtain ⟨-, -, hMC⟩ := Kd.R_reads' HS.out.more
          have HMC := Lib.hid hMC
          have HCH := Lib.hid (HP.out.stay HS.out.chg)
          have HML := Lib.hid hML
          clear hMC hML
          go_wp2
          go_loopw [9, 10, 11, 12] (fun a _ _ _ wx => ∃ (i : Nat), i ≤ H.length ∧ a = .int .i64 i ∧ wo = wx) (fun a _ _ _ _ => H.length - (intOf a).toNat)
          case atStart => exact ⟨0, by omega, rfl, rfl⟩
          case round =>
            obtain ⟨i, hi, rfl, rfl⟩ := hrel
            by_cases hlt2 : i < H.length
            · obtain ⟨ad, rfl, hc⟩ := KH_head HCH.out hlt2
              have hmi : i < M.length := by have := HML.out; omega
              obtain ⟨ad2, rfl, hc2⟩ := KH_head HMC.out hmi
              obtain ⟨hmn, hma⟩ := HS.out.mn i hlt2
              have hsh := HP.out.short i hlt2
              have ho1 := HS.out.ok i hlt2
              have ho2 := HS.out.mok i hlt2
              have hr1 := HS.out.rd i hlt2
              have hr2 := HS.out.mrd i hlt2
              obtain ⟨x1, hx1⟩ : ∃ h, hdD H i = h := ⟨_, rfl⟩
              obtain ⟨x2, hx2⟩ : ∃ h, hdD M i = h := ⟨_, rfl⟩
              rw [hx1] at hc hmn hsh ho1 hr1 hr2
              rw [hx2] at hc2 hmn hma ho2 hr2
              rcases ho2.form with rfl | ⟨g2, o2, n2, c4, rfl, -, -, -⟩
              · exact absurd rfl hma
              obtain ⟨a1, n, c3⟩ := x1
              simp only at hmn hsh hr1 hr2
              simp only [Hd.v] at hc hc2
              subst hmn
              have HR1 := Lib.hid hr1
              have HR2 := Lib.hid hr2
              have HO1 := Lib.hid ho1
              clear hx1 hx2 ho1 ho2 hr1 hr2 hma
              go_wp2
              go_loopw [11] (fun a wx => ∃ (k : Nat), k ≤ n ∧ a = .int .i64 k ∧ wo = wx) (fun a _ => n - (intOf a).toNat)
              case atStart => exact ⟨0, by omega, rfl, rfl⟩
              case round =>
                obtain ⟨k, hk, rfl, rfl⟩ := hrel
                by_cases hkl : k < n
                · rcases HO1.out.form with e | ⟨g, o, n', c', e, -, -, -⟩
                  · injection e with _ e _; omega
                  · injection e with e1 e2 e3
                    subst e1 e2 e3
                    have hv1 : wo.cell? ⟨g, o + k, none⟩ = some (.int .i64 (1000 * (i : Int) + (k : Int))) := HR1.out g o rfl k hkl
                    have hv2 : wo.cell? ⟨g2, o2 + k, none⟩ = some (.int .i64 (1000 * (i : Int) + (k : Int))) := by
                      have := HR2.out g2 o2 rfl k (by omega)
                      rw [this]; unfold fullA; rw [if_pos hkl]; rfl
                    go_wp2
                    go_roundw
                    case rel => exact ⟨k + 1, by omega, by go_num, by trivial⟩
                    case measure => simp [intOf]; omega
                · obtain rfl : k = n := by omega
                  go_wp2
                  go_loopw [12] (fun a wx => ∃ (q : Nat), q ≤ 30 ∧ a = .int .i64 q ∧ wo = wx) (fun a _ => 30 - (intOf a).toNat)
                  case atStart => exact ⟨0, by omega, rfl, rfl⟩
                  case round =>
                    obtain ⟨q, hq, rfl, rfl⟩ := hrel
                    by_cases hql : q < 30
                    · have hv2 : wo.cell? ⟨g2, o2 + (k + q), none⟩ = some (.int .i64 (500000 + 1000 * (i : Int) + (q : Int))) := by
                        have := HR2.out g2 o2 rfl (k + q) (by omega)
                        rw [this]; unfold fullA; rw [if_neg (by omega), Nat.add_sub_cancel_left]
                      go_wp2
                      go_roundw
                      case rel => exact ⟨q + 1, by omega, by go_num, by trivial⟩
                      case measure => simp [intOf]; omega
                    · obtain rfl : q = 30 := by omega
                      go_wp2
                      go_roundw
                      case rel => exact ⟨i + 1, by omega, by go_num, by trivial⟩
                      case measure => simp [intOf]; omega
            · go_wp2
              go_ret
              exact ⟨rfl, HS.out.chg⟩
end Go.Proofs.YtljoadhoicjjgaaDoor.Hand
/- How arguments read: slices of numbers, of sets, as plain lists; the table of the library as the row lists it. -/
namespace Go.Proofs.YtljoadhoicjjgaaDoor.Hand
open Go.ChangeShapes Go.WideShapes Go.ChangeAt
open Go.RowKit Go.Proofs.YtljoadhoicjjgaaDoorW.PrintWords Go.Proofs.YtljoadhoicjjgaaDoorW.PrintMore Go.Proofs.YtljoadhoicjjgaaDoor.Math

theorem set_of_wf {a : Int} (h : (Lit.int .u64 a).wf = true) : ∃ s : Nat, a = s ∧ s < 18446744073709551616 := by
  have h2 : 0 ≤ a ∧ a < 18446744073709551616 := by
    simp only [Lit.wf, IntKind.min, IntKind.max, IntKind.signed, IntKind.bits, Bool.and_eq_true, decide_eq_true_eq] at h
    have := h
    simp at this
    omega
  exact ⟨a.toNat, by omega, by omega⟩
theorem openNums {H : Type} {enc : TypeId × Value → H} {W : World} {base : Nat} {r : Reach} {b0 : Nat} {spare : Nat → Bool} {held : Bool} {t e : TypeId} {k : IntKind} {v : Value} {d : DataW H} {ps : List MemPlace} {ts : List TypeId} {ds : List (DataW H)} {j : Nat}
    (hsz : (DataW.weightsEach Tryd.prog ts ds).all (· ≤ reachBytes) = true) (ht : ts[j]? = some t) (hd : ds[j]? = some d) (hu : Tryd.prog.underlying t = some (.slice e)) (he : Tryd.prog.underlying e = some (.int k)) (hc : Tryd.prog.cellsOf e = 1) (hB : Tryd.prog.bytesOf e = 8)
    (hv : Value.okWide Tryd.prog W r b0 t v) (h : DataW.Trod enc Tryd.prog W base spare held t v d ps) :
    ∃ (A : Option Addr) (c : Nat) (l : List Int), v = .slice A l.length c ∧ Kd.C (Kd.int k) W A l.length l ∧ l.length ≤ 17592186044032 ∧ l.length ≤ c ∧ ∀ x ∈ l, (Lit.int k x).wf = true := by
  obtain ⟨a, len, cap, rfl⟩ := okWide_slice hu hv
  have y := sized_ints hsz ht hd hu he hc hB h
  obtain ⟨fuel, hf⟩ := h
  rcases open_ints hu he hc hf with ⟨hcs, _⟩ | ⟨x, l, c, zs, hcs, _, hl, hm, hz, _, hcell, hwz⟩
  · simp [Value.cells] at hcs
    obtain ⟨rfl, rfl, rfl⟩ := hcs
    exact ⟨none, 0, [], rfl, ⟨rfl, by simp, fun h => absurd h (by simp)⟩, by simp, Nat.le_refl _, fun x hx => by cases hx⟩
  · simp [Value.cells] at hcs
    obtain ⟨rfl, rfl, rfl⟩ := hcs
    obtain ⟨l0, rfl, hr0, hm0, hw0, hc0⟩ := ReadsInt.ofRowC (k := k) (w := W) (a := some x) (len := len) (cap := zs.length) (zs := zs) (.inr ⟨x, rfl, by rw [hz]; split <;> omega, by rw [hz]; split <;> omega, rfl, hcell, hwz⟩)
    exact ⟨some x, cap, l0, rfl, Kd.C_of_reads (d := (0 : Int)) (h1 := fun _ => rfl) hr0, by omega, hl, hw0⟩
theorem openInts {H : Type} {enc : TypeId × Value → H} {W : World} {base : Nat} {r : Reach} {b0 : Nat} {spare : Nat → Bool} {held : Bool} {v : Value} {d : DataW H} {ps : List MemPlace} {ts : List TypeId} {ds : List (DataW H)} {j : Nat}
    (hsz : (DataW.weightsEach Tryd.prog ts ds).all (· ≤ reachBytes) = true) (ht : ts[j]? = some 25) (hd : ds[j]? = some d)
    (hv : Value.okWide Tryd.prog W r b0 25 v) (h : DataW.Trod enc Tryd.prog W base spare held 25 v d ps) :
    ∃ (A : Option Addr) (c : Nat) (l : List Int), v = .slice A l.length c ∧ Kd.C (Kd.int .i64) W A l.length l ∧ l.length ≤ 17592186044032 ∧ l.length ≤ c ∧ ∀ x ∈ l, (Lit.int .i64 x).wf = true :=
  openNums hsz ht hd Tryd.underlying25 Tryd.underlying3 (by kernel_rfl) (by kernel_rfl) hv h
theorem C_sets {w : World} {A : Option Addr} {n : Nat} : ∀ {l : List Int} (h : Kd.C (Kd.int .u64) w A n l) (hw : ∀ x ∈ l, (Lit.int .u64 x).wf = true), ∃ m : List Nat, l = m.map (fun n : Nat => (n : Int)) ∧ Kd.C KSet w A n m ∧ ∀ x ∈ m, x < 18446744073709551616 := by
  intro l h hw
  have hl : l = (l.map Int.toNat).map (fun n : Nat => (n : Int)) := by
    rw [List.map_map]
    have : ∀ x ∈ l, ((fun n : Nat => (n : Int)) ∘ Int.toNat) x = x := by
      intro x hx
      obtain ⟨s, rfl, _⟩ := set_of_wf (hw x hx)
      simp
    exact (List.map_congr_left this).symm ▸ (List.map_id l).symm
  refine ⟨l.map Int.toNat, hl, ?_, ?_⟩
  · obtain ⟨h1, h2, h3⟩ := h
    refine ⟨by simpa using h1, h2, fun hn => ?_⟩
    obtain ⟨ad, ha, hc⟩ := h3 hn
    refine ⟨ad, ha, fun j p hj => ?_⟩
    rw [List.getElem?_map, Option.map_eq_some_iff] at hj
    obtain ⟨x, hx, rfl⟩ := hj
    obtain ⟨c, hcl, hk, hcell⟩ := hc j x hx
    refine ⟨c, hcl, ?_, hcell⟩
    have hk' : c = [Value.int .u64 x] := hk
    obtain ⟨s, rfl, _⟩ := set_of_wf (hw x (List.mem_of_getElem? hx))
    show c = [Value.int .u64 ((((s : Int)).toNat : Nat) : Int)]
    rw [hk']; simp
  · intro x hx
    obtain ⟨y, hy, rfl⟩ := List.mem_map.1 hx
    obtain ⟨s, rfl, hs⟩ := set_of_wf (hw y hy)
    simpa using hs
theorem openSets {H : Type} {enc : TypeId × Value → H} {W : World} {base : Nat} {r : Reach} {b0 : Nat} {spare : Nat → Bool} {held : Bool} {v : Value} {d : DataW H} {ps : List MemPlace} {ts : List TypeId} {ds : List (DataW H)} {j : Nat}
    (hsz : (DataW.weightsEach Tryd.prog ts ds).all (· ≤ reachBytes) = true) (ht : ts[j]? = some 54) (hd : ds[j]? = some d)
    (hv : Value.okWide Tryd.prog W r b0 54 v) (h : DataW.Trod enc Tryd.prog W base spare held 54 v d ps) :
    ∃ (A : Option Addr) (c : Nat) (l : List Nat), v = .slice A l.length c ∧ Kd.C KSet W A l.length l ∧ l.length ≤ 17592186044032 ∧ l.length ≤ c ∧ ∀ x ∈ l, x < 18446744073709551616 := by
  obtain ⟨A, c, l, rfl, hr, h1, h2, hw⟩ := openNums hsz ht hd Tryd.underlying54 Tryd.underlying23 (by kernel_rfl) (by kernel_rfl) hv h
  obtain ⟨m, rfl, hm, hl⟩ := C_sets hr hw
  simp only [List.length_map] at hr h1 h2 hm ⊢
  exact ⟨A, c, m, rfl, hm, h1, h2, hl⟩
theorem tab_nums : Rows.laid_math_bits_deBruijn64tab = (Lib.tabData .u8 (Lib.deBruijn64tab.map (fun n : Nat => (n : Int))) : DataW Unit) := by rfl
theorem laid_tab {l : List (String × DataW Unit)} {W : World} (h : laidMetH Tryd.prog l W) (hp : (l.all fun x => x.2.handleName?.isNone) = true) (hm : (l.filter fun x => x.1 == "math/bits.deBruijn64tab") = [("math/bits.deBruijn64tab", Rows.laid_math_bits_deBruijn64tab)]) : TabIn W ∧ 0 < W.heap.size := by
  rw [MakeChecks.laidMetH_plain _ _ _ hp] at h
  have h1 := h.filter (fun x => x.1 == "math/bits.deBruijn64tab")
  rw [hm, tab_nums] at h1
  have hg : Tryd.prog.globalNamed "math/bits.deBruijn64tab" = some 0 := by kernel_rfl
  have ht := Lib.tabIs_of_head hg (show (Tryd.prog.globals[0]?).map (·.type) = some 56 by kernel_rfl) Tryd.underlying56 Tryd.underlying5 (by kernel_rfl) (by kernel_rfl) h1
  have hc : TabIn W := by
    intro j hj
    have := ht.cell hg j (by simpa using hj)
    rw [this]
    simp [List.getD_eq_getElem?_getD, hj]
  exact ⟨hc, by
    have := hc 0 (by decide)
    unfold World.cell? at this
    split at this
    · rename_i hx; exact (Array.getElem?_eq_some_iff.1 hx).1
    · cases this⟩
end Go.Proofs.YtljoadhoicjjgaaDoor.Hand
/- SetsOwn: lists of numbers are new memory. -/
namespace Go.Proofs.YtljoadhoicjjgaaDoor.Hand
open Go.RowKit Go.Proofs.YtljoadhoicjjgaaDoorW.PrintWords Go.Proofs.YtljoadhoicjjgaaDoorW.PrintMore Go.Proofs.YtljoadhoicjjgaaDoor.Math

/-- A list that owns its memory, by its head. -/
theorem R_hd {w : World} {e base : Nat} {v : Value} {xs : List Int} (h : (Kd.int .i64).R e w base (fun _ => True) v xs) : ∃ hd : Hd, v = .slice hd.ad hd.n hd.c ∧ hd.n = xs.length ∧ HdOk w hd ∧ ∀ g, hd.blk = some g → base ≤ g ∧ g < w.heap.size := by
  have ho := Kd.own_of_R (enc := Value.int .i64) (h1 := fun _ => rfl) h
  obtain ⟨h1, h2⟩ := ho
  rcases h2 with ⟨rfl, h0⟩ | ⟨g, cap, cur, rfl, hb, hg, hn', hc, hs, ht⟩
  · exact ⟨hd0, rfl, h0.symm, .inl ⟨rfl, rfl, rfl⟩, fun g hg => by cases hg⟩
  · have hlt := (Array.getElem?_eq_some_iff.1 hg).1
    refine ⟨⟨some ⟨g, 0, none⟩, xs.length, cap⟩, rfl, rfl, .inr ⟨g, 0, rfl, hn', hc, hlt, fun j hj => ?_, fun j => ?_⟩, fun g' hg' => ?_⟩
    · have hj' : j < cap := hj
      rw [Nat.zero_add, cell_of_row w g j cur e (0, 0) hg, Array.getElem?_eq_getElem (by omega)]; rfl
    · simp [World.frozen?, hg]
    · have : g = g' := by simpa [Hd.blk] using hg'
      omega
/-- Four lists, each in memory of its own, in a row of new memory. -/
theorem four_pre {W W' : World} {h1 h2 h3 h4 : Hd} {b0 b1 b2 b3 b4 : Nat} (hW' : W' = W.alloc (.cells #[h1.v, h2.v, h3.v, h4.v] 25))
    (k1 : HdOk W h1) (k2 : HdOk W h2) (k3 : HdOk W h3) (k4 : HdOk W h4) (n1 : h1.n ≤ 64) (n2 : h2.n ≤ 64) (n3 : h3.n ≤ 64) (n4 : h4.n ≤ 64)
    (r1 : ∀ g, h1.blk = some g → b0 ≤ g ∧ g < b1) (r2 : ∀ g, h2.blk = some g → b1 ≤ g ∧ g < b2) (r3 : ∀ g, h3.blk = some g → b2 ≤ g ∧ g < b3) (r4 : ∀ g, h4.blk = some g → b3 ≤ g ∧ g < b4) (hs : b0 ≤ b1 ∧ b1 ≤ b2 ∧ b2 ≤ b3 ∧ b3 ≤ b4 ∧ b4 ≤ W.heap.size) :
    ApPre W' (some ⟨W.heap.size, 0, none⟩) [h1, h2, h3, h4] ∧ ∀ g, ApS [h1, h2, h3, h4] g → b0 ≤ g := by
  subst hW'
  obtain ⟨s1, s2, s3, s4, s5⟩ := hs
  have hb : Below W.heap.size W (W.alloc (.cells #[h1.v, h2.v, h3.v, h4.v] 25)) := below_alloc (Below.refl _ _) _
  have up : ∀ h, HdOk W h → HdOk (W.alloc (.cells #[h1.v, h2.v, h3.v, h4.v] 25)) h := fun h hh => hh.keep hb.size (fun g hg => hb.block g (hh.blk_lt hg))
  have four : ∀ j, j < 4 → j = 0 ∨ j = 1 ∨ j = 2 ∨ j = 3 := fun j hj => by omega
  have rng : ∀ j g, j < 4 → (hdD [h1, h2, h3, h4] j).blk = some g → b0 ≤ g ∧ g < b4 ∧ (j = 0 → g < b1) ∧ (j = 1 → b1 ≤ g ∧ g < b2) ∧ (j = 2 → b2 ≤ g ∧ g < b3) ∧ (j = 3 → b3 ≤ g) := fun j g hj e => by
    rcases four j hj with rfl | rfl | rfl | rfl
    · have := r1 g e; omega
    · have := r2 g e; omega
    · have := r3 g e; omega
    · have := r4 g e; omega
  refine ⟨⟨(Kd.R_reads' (R_lit (enc := Hd.v) (h1 := fun _ => rfl) 25 W.heap.size W [h1, h2, h3, h4] (Nat.le_refl _) (by unfold maxLen; simp))).2.2, by simp, fun j hj => ?_, fun j hj => ?_, fun i j g hi hj hne e1 e2 => ?_, fun j ad hj ha e => ?_⟩, fun g hg => ?_⟩
  · rcases four j hj with rfl | rfl | rfl | rfl
    · exact up _ k1
    · exact up _ k2
    · exact up _ k3
    · exact up _ k4
  · rcases four j hj with rfl | rfl | rfl | rfl
    · exact Nat.le_trans n1 (by decide)
    · exact Nat.le_trans n2 (by decide)
    · exact Nat.le_trans n3 (by decide)
    · exact Nat.le_trans n4 (by decide)
  · have q1 := rng i g hi e1
    have q2 := rng j g hj e2
    rcases four i hi with rfl | rfl | rfl | rfl <;> rcases four j hj with rfl | rfl | rfl | rfl <;> simp at q1 q2 hne <;> omega
  · have q1 := rng j _ hj e
    have : ad = ⟨W.heap.size, 0, none⟩ := by simpa using ha.symm
    subst this
    simp at q1
    omega
  · obtain ⟨j, hj, e⟩ := hg
    exact (rng j g hj e).1
set_option maxHeartbeats 2000000 in
theorem setsOwn_walk {w : World} (s : Nat) (hs : s < 18446744073709551616) (t : Nat) (ht : t < 18446744073709551616) (hTab : TabIn w ∧ 0 < w.heap.size) :
    Calls Tryd.prog 4 #[.int .u64 s, .int .u64 t] w fun e w' => e = .returned (.bool true) ∧ Below w.heap.size w w' := by
  have HT := Lib.hid hTab.1
  have hg := hTab.2
  have hpc : ∀ x, (numsI x).length ≤ 64 := fun x => by rw [numsI_len]; exact pc_le x
  have HPC := Lib.hid hpc
  have HNs := Lib.hid (fun (W : World) (h : Below w.heap.size w W) => numbers_calls s hs W (HT.out.below hg h))
  have HNt := Lib.hid (fun (W : World) (h : Below w.heap.size w W) => numbers_calls t ht W (HT.out.below hg h))
  have HK := Lib.hid (known1_calls w HT.out)
  have HLs := Lib.hid (fun W => len_calls s hs W)
  clear hTab hpc hs ht
  go_enter Tryd.func4, Tryd.ntmps4
  go_upto_region 4 with (first
    | (go_at_call 14; refine HK.out.mono ?_; rintro e w1 ⟨rfl, hb⟩; have HB1 := Lib.hid hb; clear hb)
    | (go_at_call 8; refine (HNt.out w4 HB4.out).mono ?_; rintro e w5 ⟨v4, rfl, ho, hb⟩; have HO4 := Lib.hid ho; have HC5 := Lib.hid hb; have HB5 := Lib.hid (below_next HB4.out hb); clear ho hb)
    | (go_at_call 8; refine (HNt.out w3 HB3.out).mono ?_; rintro e w4 ⟨v3, rfl, ho, hb⟩; have HO3 := Lib.hid ho; have HC4 := Lib.hid hb; have HB4 := Lib.hid (below_next HB3.out hb); clear ho hb)
    | (go_at_call 8; refine (HNs.out w2 HB2.out).mono ?_; rintro e w3 ⟨v2, rfl, ho, hb⟩; have HO2 := Lib.hid ho; have HC3 := Lib.hid hb; have HB3 := Lib.hid (below_next HB2.out hb); clear ho hb)
    | (go_at_call 8; refine (HNs.out w1 HB1.out).mono ?_; rintro e w2 ⟨v1, rfl, ho, hb⟩; have HO1 := Lib.hid ho; have HC2 := Lib.hid hb; have HB2 := Lib.hid (below_next HB1.out hb); clear ho hb))
  obtain ⟨h1, rfl, n1, k1, r1⟩ := R_hd HO1.out
  obtain ⟨h2, rfl, n2, k2, r2⟩ := R_hd HO2.out
  obtain ⟨h3, rfl, n3, k3, r3⟩ := R_hd HO3.out
  obtain ⟨h4, rfl, n4, k4, r4⟩ := R_hd HO4.out
  have up2 := HC3.out
  have up3 := HC4.out
  have up4 := HC5.out
  have kk : ∀ {W W' : World} {h : Hd}, HdOk W h → Below W.heap.size W W' → HdOk W' h := fun hh hb => hh.keep hb.size (fun g hg => hb.block g (hh.blk_lt hg))
  have hpre := four_pre (W := w5) rfl (kk (kk (kk k1 up2) up3) up4) (kk (kk k2 up3) up4) (kk k3 up4) k4 (by rw [n1]; exact HPC.out s) (by rw [n2]; exact HPC.out s) (by rw [n3]; exact HPC.out t) (by rw [n4]; exact HPC.out t) r1 r2 r3 r4 ⟨HC2.out.size, up2.size, up3.size, up4.size, Nat.le_refl _⟩
  have HPre := Lib.hid hpre
  have HAp := Lib.hid (apartInts_calls (some ⟨w5.heap.size, 0, none⟩) 4 [h1, h2, h3, h4] _ hpre.1)
  clear hpre kk k1 k2 k3 k4 r1 r2 r3 r4 n1 n2 n3 n4 up2 up3 up4
  go_wp2_with (first
    | (go_at_call 15; refine HAp.out.mono ?_; rintro e w6 ⟨rfl, hc⟩; have HB6 := Lib.hid (show Below w.heap.size w w6 from (below_alloc HB5.out _).trans (hc.below (below_alloc HB5.out _).size (fun k hk hS => by have := HPre.out.2 k hS; have := HB1.out.size; omega))); clear hc)
    | (go_at_call 16; refine (HLs.out _).mono ?_; rintro e w' ⟨rfl, n7, rfl⟩)
    | (go_at_call 8; refine (HNs.out _ (pw_below_drewN HB6.out _)).mono ?_; rintro e w7 ⟨v7, rfl, ho, hb⟩; obtain ⟨h7, rfl, n7', -, -⟩ := R_hd ho; rw [numsI_len] at n7'; have HN7 := Lib.hid n7'; have HB7 := Lib.hid (below_next (pw_below_drewN HB6.out n7) hb); clear ho hb n7'))
  go_ret
  exact ⟨ret_bool (by rw [HN7.out]; simp), HB7.out⟩
end Go.Proofs.YtljoadhoicjjgaaDoor.Hand
