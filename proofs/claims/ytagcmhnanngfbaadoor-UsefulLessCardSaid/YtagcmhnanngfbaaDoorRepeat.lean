/- slices.Repeat of one number; math/bits.Mul. -/
import Derived.Test.YtagcmhnanngfbaaDoorRow
import Derived.Shelf.Bits.Mul64
import Derived.Laws.CopyOwn
import Derived.StillTailTactics
namespace Go.Proofs.YtagcmhnanngfbaaDoor.Hand
open Go.RowKit Go.Proofs.YtagcmhnanngfbaaDoorW.PrintWords Go.Proofs.YtagcmhnanngfbaaDoorW.PrintMore Go.Proofs.YtagcmhnanngfbaaDoor.Math

set_option maxHeartbeats 1000000 in
theorem mul64_calls (x y : Nat) (hx : x < 18446744073709551616) (hy : y < 18446744073709551616) (w : World) :
    Calls Tryd.prog 89 #[.int .u64 x, .int .u64 y] w fun e w' => e = .returned (.tuple #[.int .u64 ((x * y / 18446744073709551616 : Nat) : Int), .int .u64 ((x * y % 18446744073709551616 : Nat) : Int)]) ∧ w' = w := by
  obtain ⟨bd, bt, bw, hhi⟩ := Lib.mul64_hi x y hx hy
  have ba := Lib.half_mul_le (a := x / 4294967296) (b := y / 4294967296) (by omega) (by omega)
  have bb := Lib.half_mul_le (a := x / 4294967296) (b := y % 4294967296) (by omega) (by omega)
  have bc := Lib.half_mul_le (a := x % 4294967296) (b := y / 4294967296) (by omega) (by omega)
  have ba' : x / 4294967296 * (y / 4294967296) < 18446744073709551616 := by omega
  have bb' : x / 4294967296 * (y % 4294967296) < 18446744073709551616 := by omega
  have bc' : x % 4294967296 * (y / 4294967296) < 18446744073709551616 := by omega
  have bh1 : x / 4294967296 * (y / 4294967296) + (x / 4294967296 * (y % 4294967296) + x % 4294967296 * (y % 4294967296) / 4294967296) / 4294967296 < 18446744073709551616 := by omega
  have bh : x / 4294967296 * (y / 4294967296) + (x / 4294967296 * (y % 4294967296) + x % 4294967296 * (y % 4294967296) / 4294967296) / 4294967296 + ((x / 4294967296 * (y % 4294967296) + x % 4294967296 * (y % 4294967296) / 4294967296) % 4294967296 + x % 4294967296 * (y / 4294967296)) / 4294967296 < 18446744073709551616 := by omega
  go_enter Tryd.func89, Tryd.ntmps89
  go_wp2
  simp only [Mul64.maskN x hx, Mul64.maskN y hy, Mul64.divN, Mul64.mulN, Mul64.addN, Mul64.wrapN _ bd, Mul64.wrapN _ bb', Mul64.wrapN _ bt, Mul64.maskN _ bt, Mul64.wrapN _ bc', Mul64.wrapN _ bw, Mul64.wrapN _ ba', Mul64.wrapN _ bh1, Mul64.wrapN _ bh, Mul64.wrapM (x * y)]
  rw [hhi]
  go_ret2
  exact ⟨rfl, rfl⟩
theorem mul_calls (x y : Nat) (hx : x < 18446744073709551616) (hy : y < 18446744073709551616) (w : World) :
    Calls Tryd.prog 84 #[.int .u64 x, .int .u64 y] w fun e w' => e = .returned (.tuple #[.int .u64 ((x * y / 18446744073709551616 : Nat) : Int), .int .u64 ((x * y % 18446744073709551616 : Nat) : Int)]) ∧ w' = w := by
  have HM := Lib.hid (mul64_calls x y hx hy w)
  go_enter Tryd.func84, Tryd.ntmps84
  go_wp2_with (go_at_call 89; refine HM.out.mono ?_; rintro e w' ⟨rfl, rfl⟩)
  go_ret2
  exact ⟨rfl, rfl⟩
theorem splice_rep {α : Type} (a b : α) (n m k : Nat) : splice (List.replicate n a ++ List.replicate (m + k) b) n (List.replicate m a) = List.replicate (n + m) a ++ List.replicate k b := by
  unfold splice
  rw [List.take_left' (by simp), List.length_replicate, List.drop_append]
  simp only [List.length_replicate, List.drop_replicate]
  have e1 : n - (n + m) = 0 := by omega
  have e2 : m + k - (n + m - n) = k := by omega
  rw [e1, e2, List.replicate_zero, List.nil_append, ← List.append_assoc, List.replicate_append_replicate]
set_option maxHeartbeats 1000000 in
set_option maxRecDepth 20000 in
theorem repeat1_calls (ad : Addr) (c N : Nat) (z : Int) (w : World) (h1 : 1 ≤ N) (h2 : N ≤ 60) (hc : w.cell? ad = some (.int .i64 z)) :
    Calls Tryd.prog 75 #[.slice (some ad) 1 c, .int .i64 ((N : Nat) : Int)] w fun e w' => ∃ g, e = .returned (.slice (some ⟨g, 0, none⟩) N N) ∧ Row w' g N (fun _ => .int .i64 z) ∧ w.heap.size ≤ g ∧ Below w.heap.size w w' := by
  have HM := Lib.hid (fun W => mul_calls 1 N (by omega) (by omega) W)
  rw [Nat.one_mul, Nat.div_eq_of_lt (by omega), Nat.mod_eq_of_lt (by omega)] at HM
  have HC := Lib.hid hc
  obtain ⟨w2, hw2⟩ : ∃ w2, w.alloc (.cells (madeCells #[.int .i64 0] N) 3) = w2 := ⟨_, rfl⟩
  have hmk : (Instr.makeSlice 38 (.int .i64 ((N : Nat) : Int)) (.int .i64 ((N : Nat) : Int))).run Tryd.prog w = .ok (.slice (some ⟨w.heap.size, 0, none⟩) N N) w2 := by
    rw [← hw2]
    exact print_make_of (P := Tryd.prog) 38 3 (.int .i64 0) 8 rfl infoInt rfl (by decide) N (by omega) w
  have hk2 : w2.heap[w.heap.size]? = some (.cells ((List.replicate N (Value.int .i64 0)).toArray) 3 (0, 0)) := by
    rw [← hw2, heap_alloc_new]
    congr 2
    apply Array.ext
    · simp [madeCells]
    · intro i h1 h2; simp [madeCells, Nat.mod_one]
  have hb2 : Below w.heap.size w w2 := by rw [← hw2]; exact below_alloc (Below.refl _ _) _
  have hc2 : w2.cell? ad = some (.int .i64 z) := (hb2.cell (World.block_lt_of_cell? _ _ hc)).trans hc
  have HK2 := Lib.hid hk2
  have HB2 := Lib.hid hb2
  clear hk2 hb2 hw2
  go_enter Tryd.func75, Tryd.ntmps75
  go_wp2_with (first
    | (go_at_call 84; refine (HM.out _).mono ?_; rintro e w' ⟨rfl, hw⟩; rw [hw])
    | (refine wpList_copy_splice rfl (.tmp 31) (.tmp 32) 38 38 rfl 3 Tryd.underlying38 (by kernel_rfl) (some ⟨w.heap.size, 0, none⟩) (some ad) N N 1 c rfl rfl w.heap.size 0 (List.replicate N (Value.int .i64 0)) 3 HK2.out [.int .i64 z] (by show 1 = min 1 N; omega) (fun _ => ⟨rfl, ad, rfl, fun j v hv => by cases j with | zero => (simp at hv; subst hv; simpa [Addr.add] using hc2) | succ j => simp at hv⟩) (by simp; omega) (by intro v hv; rw [List.mem_singleton.1 hv]; rfl) w.heap.size w HB2.out (Nat.le_refl _) ?_; intro w3 hg3 hb3; have HB3 := Lib.hid hb3; clear hb3))
  clear hc2 hmk
  obtain ⟨g, hg⟩ : ∃ g, w.heap.size = g := ⟨_, rfl⟩
  rw [hg] at hg3 ⊢
  have HG := Lib.hid hg
  clear hg
  have HS3 : Hid (w3.heap[g]? = some (.cells ((List.replicate 1 (Value.int .i64 z) ++ List.replicate (N - 1) (Value.int .i64 0)).toArray) 3 (0, 0))) := Lib.hid (by
    have h := hg3.out
    have e := splice_rep (Value.int .i64 z) (Value.int .i64 0) 0 1 (N - 1)
    rw [List.replicate_zero, List.nil_append, show 1 + (N - 1) = N by omega, Nat.zero_add] at e
    rw [show [Value.int .i64 z] = List.replicate 1 (Value.int .i64 z) from rfl, e] at h
    exact h)
  clear hg3
  go_loopw [8] (fun x wr => ∃ n : Nat, 1 ≤ n ∧ n ≤ N ∧ x = .int .i64 n ∧ Aside0 (wr.heap[g]? = some (.cells ((List.replicate n (Value.int .i64 z) ++ List.replicate (N - n) (Value.int .i64 0)).toArray) 3 (0, 0))) ∧ Aside0 (Below w.heap.size w wr)) (fun x _ => N - (intOf x).toNat)
  case atStart => exact ⟨1, by omega, by omega, rfl, ⟨HS3.out⟩, ⟨HB3.out⟩⟩
  case round =>
    obtain ⟨n, hn1, hn, rfl, HX, HBx⟩ := hrel
    by_cases hlt : n < N
    · obtain ⟨m, hm⟩ : ∃ m, m = min n (N - n) := ⟨_, rfl⟩
      have HMm := Lib.hid hm
      have hmul : m ≤ n ∧ m ≤ N - n := by omega
      have HLen : Hid ((List.replicate m (Value.int .i64 z)).length = Nat.min n (N - n)) := Lib.hid (by rw [List.length_replicate]; exact hm)
      have HFit : Hid (n + (List.replicate m (Value.int .i64 z)).length ≤ (List.replicate n (Value.int .i64 z) ++ List.replicate (N - n) (Value.int .i64 0)).length) := Lib.hid (by simp only [List.length_append, List.length_replicate]; omega)
      have HOne : Hid (∀ v ∈ List.replicate m (Value.int .i64 z), v.oneCell' = true) := Lib.hid (by intro v hv; rw [(List.mem_replicate.1 hv).2]; rfl)
      have HSrc : Hid (∀ j v, (List.replicate m (Value.int .i64 z))[j]? = some v → wr.cell? ((⟨g, 0, none⟩ : Addr).add j) = some v) := Lib.hid (fun j v hv => by
        rw [List.getElem?_replicate] at hv
        split at hv
        · rename_i hj
          have e : ((⟨g, 0, none⟩ : Addr).add j) = ⟨g, j, none⟩ := by unfold Addr.add; by_cases h : j = 0 <;> simp [h]
          rw [e]
          have hx := HX.out
          simp only [World.cell?, hx]
          rw [← hv]
          have h2 : j < n := by omega
          show ((List.replicate n (Value.int .i64 z) ++ List.replicate (N - n) (Value.int .i64 0)).toArray)[j]? = _
          rw [List.getElem?_toArray, List.getElem?_append_left (by simpa using h2), List.getElem?_replicate, if_pos h2]
        · cases hv)
      clear hm
      go_wp2_with fail
      have hn0 : (0 : Int) ≤ (n : Int) := by omega
      have hnN : (n : Int) ≤ (N : Int) := by omega
      have hNn : ¬ N = n := by omega
      go_region_law (refine step_copy_splice rfl (.tmp 41) (.tmp 44) 38 38 rfl 3 Tryd.underlying38 (by kernel_rfl) (some ⟨g, n, none⟩) (some ⟨g, 0, none⟩) (N - n) (N - n) n N (by simp [go_sem]) (by simp [go_sem]) g n (List.replicate n (Value.int .i64 z) ++ List.replicate (N - n) (Value.int .i64 0)) 3 HX.out (List.replicate m (Value.int .i64 z)) HLen.out (fun _ => ⟨rfl, ⟨g, 0, none⟩, rfl, HSrc.out⟩) HFit.out HOne.out w.heap.size w HBx.out.drew (by rw [HG.out]; exact Nat.le_refl _) ?_; intro w4 hg4 hb4; have HB4 := Lib.hid hb4; clear hb4)
      have HS : Hid (w4.heap[g]? = some (.cells ((List.replicate (n + m) (Value.int .i64 z) ++ List.replicate (N - (n + m)) (Value.int .i64 0)).toArray) 3 (0, 0))) := Lib.hid (by
        have h := hg4.out
        have e := splice_rep (Value.int .i64 z) (Value.int .i64 0) n m (N - (n + m))
        rw [show m + (N - (n + m)) = N - n by omega] at e
        rw [e] at h
        exact h)
      have HWr : Hid (IntKind.i64.wrap ((n : Int) + (m : Int)) = ((n + m : Nat) : Int)) := Lib.hid (by rw [Go.IntWalk.i64_in _ (by omega)]; omega)
      clear hg4
      go_simp
      go_wp2
      go_roundw
      case rel => exact ⟨n + m, by omega, by omega, by rw [HWr.out], ⟨HS.out⟩, ⟨HB4.out⟩⟩
      case measure => have := HMm.out; rw [HWr.out]; simp [intOf]; omega
    · obtain rfl : n = N := by omega
      have HF := HX.out
      rw [Nat.sub_self, List.replicate_zero, List.append_nil] at HF
      have HF2 := Lib.hid HF
      clear HF
      go_wp2
      go_ret
      refine ⟨g, rfl, ⟨fun q hq => ?_, fun q => blk_frozen HF2.out _, (Array.getElem?_eq_some_iff.1 HF2.out).1⟩, by rw [HG.out]; exact Nat.le_refl _, HBx.out⟩
      have hx := HF2.out
      simp only [World.cell?, hx]
      show ((List.replicate n (Value.int .i64 z)).toArray)[q]? = _
      rw [List.getElem?_toArray, List.getElem?_replicate, if_pos hq]
end Go.Proofs.YtagcmhnanngfbaaDoor.Hand
