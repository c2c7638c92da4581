/- How arguments read: slices of numbers, of sets, as plain lists; the table of the library as the row lists it. -/
import Derived.Test.YtgbiihmacinnmaaDoorBase
import Derived.Test.YtgbiihmacinnmaaDoorWSized
import Derived.Test.YtgbiihmacinnmaaDoorRows
import Derived.OpenShut
import Derived.ProofKit
import Derived.ChangeOld
import Derived.SizedLaws
import Derived.ShutString
import Derived.LaidSub
import Derived.LaidMore
import Derived.Stop.Joined
import Derived.Lib.LaidTab
import Derived.Test.YtgbiihmacinnmaaDoorSetsB
namespace Go.Proofs.YtgbiihmacinnmaaDoor.Hand
open Go.ChangeShapes Go.WideShapes Go.ChangeAt
open Go.RowKit Go.Proofs.YtgbiihmacinnmaaDoorW.PrintWords Go.Proofs.YtgbiihmacinnmaaDoorW.PrintMore Go.Proofs.YtgbiihmacinnmaaDoor.Math

theorem set_of_wf {a : Int} (h : (Lit.int .u64 a).wf = true) : ∃ s : Nat, a = s ∧ s < 18446744073709551616 := by
  have h2 : 0 ≤ a ∧ a < 18446744073709551616 := by
    simp only [Lit.wf, IntKind.min, IntKind.max, IntKind.signed, IntKind.bits, Bool.and_eq_true, decide_eq_true_eq] at h
    have := h
    simp at this
    omega
  exact ⟨a.toNat, by omega, by omega⟩
theorem openNums {H : Type} {enc : TypeId × Value → H} {W : World} {base : Nat} {r : Reach} {b0 : Nat} {spare : Nat → Bool} {held : Bool} {t e : TypeId} {k : IntKind} {v : Value} {d : DataW H} {ps : List MemPlace} {ts : List TypeId} {ds : List (DataW H)} {j : Nat}
    (hsz : (DataW.weightsEach Tryd.prog ts ds).all (· ≤ reachBytes) = true) (ht : ts[j]? = some t) (hd : ds[j]? = some d) (hu : Tryd.prog.underlying t = some (.slice e)) (he : Tryd.prog.underlying e = some (.int k)) (hc : Tryd.prog.cellsOf e = 1) (hB : Tryd.prog.bytesOf e = 8)
    (hv : Value.okWide Tryd.prog W r b0 t v) (h : DataW.Trod enc Tryd.prog W base spare held t v d ps) :
    ∃ (A : Option Addr) (c : Nat) (l : List Int), v = .slice A l.length c ∧ Kd.C (Kd.int k) W A l.length l ∧ l.length ≤ 17592186044032 ∧ l.length ≤ c ∧ ∀ x ∈ l, (Lit.int k x).wf = true := by
  obtain ⟨a, len, cap, rfl⟩ := okWide_slice hu hv
  have y := sized_ints hsz ht hd hu he hc hB h
  obtain ⟨fuel, hf⟩ := h
  rcases open_ints hu he hc hf with ⟨hcs, _⟩ | ⟨x, l, c, zs, hcs, _, hl, hm, hz, _, hcell, hwz⟩
  · simp [Value.cells] at hcs
    obtain ⟨rfl, rfl, rfl⟩ := hcs
    exact ⟨none, 0, [], rfl, ⟨rfl, by simp, fun h => absurd h (by simp)⟩, by simp, Nat.le_refl _, fun x hx => by cases hx⟩
  · simp [Value.cells] at hcs
    obtain ⟨rfl, rfl, rfl⟩ := hcs
    obtain ⟨l0, rfl, hr0, hm0, hw0, hc0⟩ := ReadsInt.ofRowC (k := k) (w := W) (a := some x) (len := len) (cap := zs.length) (zs := zs) (.inr ⟨x, rfl, by rw [hz]; split <;> omega, by rw [hz]; split <;> omega, rfl, hcell, hwz⟩)
    exact ⟨some x, cap, l0, rfl, Kd.C_of_reads (d := (0 : Int)) (h1 := fun _ => rfl) hr0, by omega, hl, hw0⟩
theorem openInts {H : Type} {enc : TypeId × Value → H} {W : World} {base : Nat} {r : Reach} {b0 : Nat} {spare : Nat → Bool} {held : Bool} {v : Value} {d : DataW H} {ps : List MemPlace} {ts : List TypeId} {ds : List (DataW H)} {j : Nat}
    (hsz : (DataW.weightsEach Tryd.prog ts ds).all (· ≤ reachBytes) = true) (ht : ts[j]? = some 25) (hd : ds[j]? = some d)
    (hv : Value.okWide Tryd.prog W r b0 25 v) (h : DataW.Trod enc Tryd.prog W base spare held 25 v d ps) :
    ∃ (A : Option Addr) (c : Nat) (l : List Int), v = .slice A l.length c ∧ Kd.C (Kd.int .i64) W A l.length l ∧ l.length ≤ 17592186044032 ∧ l.length ≤ c ∧ ∀ x ∈ l, (Lit.int .i64 x).wf = true :=
  openNums hsz ht hd Tryd.underlying25 Tryd.underlying3 (by kernel_rfl) (by kernel_rfl) hv h
theorem C_sets {w : World} {A : Option Addr} {n : Nat} : ∀ {l : List Int} (h : Kd.C (Kd.int .u64) w A n l) (hw : ∀ x ∈ l, (Lit.int .u64 x).wf = true), ∃ m : List Nat, l = m.map (fun n : Nat => (n : Int)) ∧ Kd.C KSet w A n m ∧ ∀ x ∈ m, x < 18446744073709551616 := by
  intro l h hw
  have hl : l = (l.map Int.toNat).map (fun n : Nat => (n : Int)) := by
    rw [List.map_map]
    have : ∀ x ∈ l, ((fun n : Nat => (n : Int)) ∘ Int.toNat) x = x := by
      intro x hx
      obtain ⟨s, rfl, _⟩ := set_of_wf (hw x hx)
      simp
    exact (List.map_congr_left this).symm ▸ (List.map_id l).symm
  refine ⟨l.map Int.toNat, hl, ?_, ?_⟩
  · obtain ⟨h1, h2, h3⟩ := h
    refine ⟨by simpa using h1, h2, fun hn => ?_⟩
    obtain ⟨ad, ha, hc⟩ := h3 hn
    refine ⟨ad, ha, fun j p hj => ?_⟩
    rw [List.getElem?_map, Option.map_eq_some_iff] at hj
    obtain ⟨x, hx, rfl⟩ := hj
    obtain ⟨c, hcl, hk, hcell⟩ := hc j x hx
    refine ⟨c, hcl, ?_, hcell⟩
    have hk' : c = [Value.int .u64 x] := hk
    obtain ⟨s, rfl, _⟩ := set_of_wf (hw x (List.mem_of_getElem? hx))
    show c = [Value.int .u64 ((((s : Int)).toNat : Nat) : Int)]
    rw [hk']; simp
  · intro x hx
    obtain ⟨y, hy, rfl⟩ := List.mem_map.1 hx
    obtain ⟨s, rfl, hs⟩ := set_of_wf (hw y hy)
    simpa using hs
theorem openSets {H : Type} {enc : TypeId × Value → H} {W : World} {base : Nat} {r : Reach} {b0 : Nat} {spare : Nat → Bool} {held : Bool} {v : Value} {d : DataW H} {ps : List MemPlace} {ts : List TypeId} {ds : List (DataW H)} {j : Nat}
    (hsz : (DataW.weightsEach Tryd.prog ts ds).all (· ≤ reachBytes) = true) (ht : ts[j]? = some 22) (hd : ds[j]? = some d)
    (hv : Value.okWide Tryd.prog W r b0 22 v) (h : DataW.Trod enc Tryd.prog W base spare held 22 v d ps) :
    ∃ (A : Option Addr) (c : Nat) (l : List Nat), v = .slice A l.length c ∧ Kd.C KSet W A l.length l ∧ l.length ≤ 17592186044032 ∧ l.length ≤ c ∧ ∀ x ∈ l, x < 18446744073709551616 := by
  obtain ⟨A, c, l, rfl, hr, h1, h2, hw⟩ := openNums hsz ht hd Tryd.underlying22 Tryd.underlying24 (by kernel_rfl) (by kernel_rfl) hv h
  obtain ⟨m, rfl, hm, hl⟩ := C_sets hr hw
  simp only [List.length_map] at hr h1 h2 hm ⊢
  exact ⟨A, c, m, rfl, hm, h1, h2, hl⟩
theorem tab_nums : Rows.laid_math_bits_deBruijn64tab = (Lib.tabData .u8 (Lib.deBruijn64tab.map (fun n : Nat => (n : Int))) : DataW Unit) := by rfl
theorem laid_tab {l : List (String × DataW Unit)} {W : World} (h : laidMetH Tryd.prog l W) (hp : (l.all fun x => x.2.handleName?.isNone) = true) (hm : (l.filter fun x => x.1 == "math/bits.deBruijn64tab") = [("math/bits.deBruijn64tab", Rows.laid_math_bits_deBruijn64tab)]) : TabIn W ∧ 0 < W.heap.size := by
  rw [MakeChecks.laidMetH_plain _ _ _ hp] at h
  have h1 := h.filter (fun x => x.1 == "math/bits.deBruijn64tab")
  rw [hm, tab_nums] at h1
  have hg : Tryd.prog.globalNamed "math/bits.deBruijn64tab" = some 0 := by kernel_rfl
  have ht := Lib.tabIs_of_head hg (show (Tryd.prog.globals[0]?).map (·.type) = some 59 by kernel_rfl) Tryd.underlying59 Tryd.underlying5 (by kernel_rfl) (by kernel_rfl) h1
  have hc : TabIn W := by
    intro j hj
    have := ht.cell hg j (by simpa using hj)
    rw [this]
    simp [List.getD_eq_getElem?_getD, hj]
  exact ⟨hc, by
    have := hc 0 (by decide)
    unfold World.cell? at this
    split at this
    · rename_i hx; exact (Array.getElem?_eq_some_iff.1 hx).1
    · cases this⟩
end Go.Proofs.YtgbiihmacinnmaaDoor.Hand
