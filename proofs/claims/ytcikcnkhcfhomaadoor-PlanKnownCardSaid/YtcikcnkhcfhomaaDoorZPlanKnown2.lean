/- The texts that the statement's proof stands on, part 2: XPlCut XPlText XPlAwake XRcut XPlCutR XPlRefJ XPlNum XPlRefT XPlItoa XPlRead XPlReadC XPlRdR. -/
import Derived.Test.YtcikcnkhcfhomaaDoorZPlanKnown1
import Derived.Test.YtcikcnkhcfhomaaDoorShelf
import Derived.ArgAppend
import Derived.StillTailTactics
import Derived.IntWalk
import Derived.Deep.RegionHeld3
import Derived.Lib.LaidTab
import Derived.Lib.IndexBytes
/- Contracts: plan.Cut. -/
namespace Go.Proofs.YtcikcnkhcfhomaaDoor.Hand
open Go.RowKit Go.Proofs.YtcikcnkhcfhomaaDoorW.PrintWords Go.Proofs.YtcikcnkhcfhomaaDoorW.PrintMore Go.Proofs.YtcikcnkhcfhomaaDoor.Math

/-- The pieces of cuts. -/
def cutL (n : Int) : Int → List Int → List (Int × Int)
  | f, [] => [(f, n)]
  | f, t :: r => (f, t) :: cutL n t r
def cutOk (n : Int) : Int → List Int → Bool
  | _, [] => true
  | f, t :: r => decide (f ≤ t) && (decide (t ≤ n) && cutOk n t r)
def cutE (n : Int) (l : List Int) : Nat :=
  if n < 0 ∨ 65536 < n ∨ 65536 < l.length then 1 else if cutOk n 0 l then 0 else 8
theorem cutL_length (n : Int) : ∀ (l : List Int) (f : Int), (cutL n f l).length = l.length + 1
  | [], _ => rfl
  | t :: r, f => by rw [cutL, List.length_cons, cutL_length n r t, List.length_cons]
theorem info2i : (Tryd.prog.info? 44).map (fun i => (i.zero, i.size, i.bytes)) = some (some (.agg #[.int .i64 0, .int .i64 0]), 2, 16) := by kernel_rfl
theorem make2 (n : Nat) (hn : n ≤ 100000) (w : World) : ∃ cs : Array Value, cs.size = n * 2 ∧ (Instr.makeSlice 37 (.int .i64 0) (.int .i64 (n : Int))).run Tryd.prog w = .ok (.slice (some ⟨w.heap.size, 0, none⟩) 0 n) (w.alloc (.cells cs 44)) := by
  obtain ⟨i, hi, hzz⟩ := Option.map_eq_some_iff.1 info2i
  simp only [Prod.mk.injEq] at hzz
  obtain ⟨hz, hs, hb⟩ := hzz
  have h := run_make (P := Tryd.prog) w 37 44 i _ Tryd.underlying37 hi hz .i64 .i64 0 (n : Int) (by omega) (by omega) (by rw [hb]; omega) (by omega)
  rw [hs] at h
  exact ⟨_, by simp [size_madeCells], h⟩
theorem made2 (n : Nat) (hn : n ≤ 100000) (w : World) (base : Nat) (ok : Nat → Prop) (cs : Array Value) (hc : cs.size = n * 2) (hb : base ≤ w.heap.size) (hok : ok w.heap.size) : K2.R 44 (w.alloc (.cells cs 44)) base ok (.slice (some ⟨w.heap.size, 0, none⟩) 0 n) [] :=
  ⟨fun k hk => by simp [Value.ownBlock] at hk; subst hk; exact hok, [], ⟨by simp, .inr ⟨w.heap.size, n, cs, rfl, hb, heap_alloc_new w _, Nat.zero_le _, by have : maxLen = 9223372036854775807 := (by decide); omega, hc, by simp⟩⟩, Reps.none _ _⟩
structure CSt (w0 w : World) (n : Int) (l : List Int) (j : Nat) (v : Value) (f : Int) (done : List (Int × Int)) : Prop where
  eq : cutL n 0 l = done ++ cutL n f (l.drop j)
  ok : cutOk n 0 l = cutOk n f (l.drop j)
  dl : done.length = j
  own : K2.R 44 w w0.heap.size (fun _ => True) v done
  bel : Below w0.heap.size w0 w
theorem CSt.next {w0 w w6 : World} {n f t : Int} {l : List Int} {j : Nat} {v v1 : Value} {done : List (Int × Int)} (h : CSt w0 w n l j v f done) (hd : l.drop j = t :: l.drop (j + 1)) (h0 : ¬ t < f) (h1 : ¬ n < t)
    (ho : K2.R 44 w6 w0.heap.size (fun _ => True) v1 (done ++ [(f, t)])) (hb : Below w0.heap.size w0 w6) : CSt w0 w6 n l (j + 1) v1 t (done ++ [(f, t)]) := by
  refine ⟨?_, ?_, ?_, ho, hb⟩
  · rw [h.eq, hd, cutL, List.append_assoc]; rfl
  · rw [h.ok, hd, cutOk, decide_eq_true (show f ≤ t by omega), decide_eq_true (show t ≤ n by omega)]; rfl
  · have := h.dl; simp; omega
set_option maxHeartbeats 2000000 in
set_option maxRecDepth 20000 in
theorem cut_calls (n : Int) (A : Option Addr) (c : Nat) (l : List Int) (w : World) (Ae : Nat → Addr) (hE : ErrsL [0, 7] w Ae) (hr : Kd.C (Kd.int .i64) w A l.length l) (hl : l.length ≤ 17592186044415) :
    Calls Tryd.prog 21 #[.int .i64 n, .slice A l.length c] w fun e w' => Below w.heap.size w w' ∧ ((∃ k, cutE n l = k + 1 ∧ e = .returned (.tuple #[.slice none 0 0, .iface 133 (.pointer (some (Ae k)))])) ∨
      (cutE n l = 0 ∧ ∃ B d, e = .returned (.tuple #[.slice B (cutL n 0 l).length (cutL n 0 l).length, .nilIface]) ∧ K2.R 44 w' w.heap.size (fun _ => True) (.slice B (cutL n 0 l).length d) (cutL n 0 l))) := by
  have HR := Lib.hid hr
  have HE := Lib.hid hE
  have hlen := hr.2.1
  have e0 := hE.cells 0 (by decide)
  have e7 := hE.cells 7 (by decide)
  simp only [GE, List.getD_cons_zero, List.getD_cons_succ] at e0 e7
  clear hr hE
  by_cases h1 : n < 0 ∨ 65536 < n ∨ 65536 < l.length
  · have HO : Hid (cutE n l = 0 + 1) := Lib.hid (by unfold cutE; rw [if_pos h1])
    have hcase : (n < 0) ∨ (¬ n < 0 ∧ 65536 < n) ∨ (¬ n < 0 ∧ ¬ 65536 < n ∧ (65536 : Int) < (l.length : Int)) := by omega
    clear h1
    rcases hcase with h2 | ⟨h2, h3⟩ | ⟨h2, h3, h4⟩
    all_goals
      go_enter Tryd.func21, Tryd.ntmps21
      go_upto_region 2 with (fail)
      go_quiet (fail)
      go_wp2
      go_ret2
      exact ⟨pw_below_drewN (Below.refl _ _) _, .inl ⟨0, HO.out, rfl⟩⟩
  · have h2 : ¬ n < 0 := by omega
    have h3 : ¬ 65536 < n := by omega
    have h4 : ¬ (65536 : Int) < (l.length : Int) := by omega
    have hl4 : l.length ≤ 65536 := by omega
    have HV : Hid (cutE n l = if cutOk n 0 l then 0 else 8) := Lib.hid (by unfold cutE; rw [if_neg h1])
    clear h1
    obtain ⟨cs, hcs, hmk⟩ := make2 (l.length + 1) (by omega) w
    rw [show ((l.length + 1 : Nat) : Int) = (l.length : Int) + 1 from by omega] at hmk
    obtain ⟨w2, hw2⟩ : ∃ w2, w.alloc (.cells cs 44) = w2 := ⟨_, rfl⟩
    have hb2 : Below w.heap.size w w2 := by rw [← hw2]; exact below_alloc (Below.refl _ _) _
    have hR2 := made2 (l.length + 1) (by omega) w w.heap.size (fun _ => True) cs hcs (Nat.le_refl _) trivial
    rw [hw2] at hR2 hmk
    have HJ : Hid (CSt w w2 n l 0 (.slice (some ⟨w.heap.size, 0, none⟩) 0 (l.length + 1)) 0 []) := Lib.hid ⟨by simp, by simp, rfl, hR2, hb2⟩
    clear hb2 hR2 hw2 hcs
    go_enter Tryd.func21, Tryd.ntmps21
    go_wp2
    clear hmk
    go_loopw [6, 7, 28] (fun v f x wr => ∃ (j : Nat) (y : Int) (done : List (Int × Int)), f = .int .i64 y ∧ x = .int .i64 j ∧ j ≤ l.length ∧ Hid (CSt w wr n l j v y done)) (fun _ _ x _ => l.length - (intOf x).toNat)
    case atStart => exact ⟨0, 0, _, rfl, rfl, by omega, HJ⟩
    case round =>
      obtain ⟨j, f, done, rfl, rfl, hj, HS⟩ := hrel
      obtain ⟨wo, rfl⟩ : ∃ wo : World, wo = wr := ⟨_, rfl⟩
      by_cases hlt : j < l.length
      · obtain ⟨ad, t, rfl, hc, HY⟩ := at_nat (Kd.C_below HR.out HS.out.bel) j hlt
        have HD : Hid (l.drop j = t :: l.drop (j + 1)) := Lib.hid (by
          rw [List.drop_eq_getElem_cons hlt]
          congr 1
          have := HY.out
          rw [List.getD_eq_getElem?_getD, List.getElem?_eq_getElem hlt] at this
          simpa using this)
        by_cases ht0 : t < f
        · have HO : Hid (cutE n l = 7 + 1) := Lib.hid (by rw [HV.out, HS.out.ok, HD.out, cutOk]; simp; omega)
          have c7 := (HE.out.below HS.out.bel).cells 7 (by decide)
          simp only [GE, List.getD_cons_zero, List.getD_cons_succ] at c7
          go_upto_region 9 with (fail)
          go_quiet (fail)
          go_wp2
          go_ret2
          exact ⟨pw_below_drewN HS.out.bel _, .inl ⟨7, HO.out, rfl⟩⟩
        · by_cases ht1 : n < t
          · have HO : Hid (cutE n l = 7 + 1) := Lib.hid (by rw [HV.out, HS.out.ok, HD.out, cutOk]; simp; omega)
            have c7 := (HE.out.below HS.out.bel).cells 7 (by decide)
            simp only [GE, List.getD_cons_zero, List.getD_cons_succ] at c7
            go_upto_region 9 with (fail)
            go_quiet (fail)
            go_wp2
            go_ret2
            exact ⟨pw_below_drewN HS.out.bel _, .inl ⟨7, HO.out, rfl⟩⟩
          · go_wp2_with ((with_reducible refine gate_builtin (b := .append) (xs := #[.tmp 41, .tmp 45]) rfl ?_); at_builtin; go_loud (refine Kd.R_append K2 (w0 := w) w.heap.size rfl (.tmp 41) (.tmp 45) 37 44 (.agg #[.int .i64 0, .int .i64 0]) 16 rfl Tryd.underlying37 info2i rfl (by decide) (by omega) u6 done (f, t) [.int .i64 f, .int .i64 t] (fun _ => True) (fun _ => False) rfl rfl ⟨[.int .i64 f], [.int .i64 t], rfl, rfl, rfl⟩ (fun _ hk => hk.elim) (fun _ _ => trivial) HS.out.own HS.out.bel HS.out.bel.size (by have := HS.out.dl; omega) ?_); intro v1 w6 ho hb hg hat; (have H6 := Lib.hid (CSt.next HS.out HD.out ht0 ht1 ho hb); clear ho hb hg hat))
            go_roundw
            case rel => exact ⟨j + 1, t, _, rfl, by go_num, by omega, H6⟩
            case measure => simp [intOf]; omega
      · obtain rfl : j = l.length := by omega
        have hd : l.drop l.length = [] := List.drop_of_length_le (by omega)
        have HO : Hid (cutE n l = 0) := Lib.hid (by rw [HV.out, HS.out.ok, hd, cutOk]; rfl)
        have HQ : Hid (cutL n 0 l = done ++ [(f, n)]) := Lib.hid (by rw [HS.out.eq, hd, cutL])
        go_wp2_with ((with_reducible refine gate_builtin (b := .append) (xs := #[.tmp 49, .tmp 53]) rfl ?_); at_builtin; go_loud (refine Kd.R_append K2 (w0 := w) w.heap.size rfl (.tmp 49) (.tmp 53) 37 44 (.agg #[.int .i64 0, .int .i64 0]) 16 rfl Tryd.underlying37 info2i rfl (by decide) (by omega) u6 done (f, n) [.int .i64 f, .int .i64 n] (fun _ => True) (fun _ => False) rfl rfl ⟨[.int .i64 f], [.int .i64 n], rfl, rfl, rfl⟩ (fun _ hk => hk.elim) (fun _ _ => trivial) HS.out.own HS.out.bel HS.out.bel.size (by have := HS.out.dl; omega) ?_); intro v1 w6 ho hb hg hat; (rw [← HQ.out] at ho; obtain ⟨B, d, rfl⟩ := Kd.R_slice ho; have HB6 := Lib.hid hb; have HO6 := Lib.hid ho; have hcap := (Kd.R_reads' ho).2.1; rw [cutL_length] at hcap ⊢; clear ho hb hg hat))
        go_ret2
        exact ⟨HB6.out, .inr ⟨HO.out, B, d, by rw [cutL_length]; rfl, HO6.out⟩⟩
end Go.Proofs.YtcikcnkhcfhomaaDoor.Hand
/- Contracts: plan.Text. -/
namespace Go.Proofs.YtcikcnkhcfhomaaDoor.Hand
open Go.RowKit Go.Proofs.YtcikcnkhcfhomaaDoorW.PrintWords Go.Proofs.YtcikcnkhcfhomaaDoorW.PrintMore Go.Proofs.YtcikcnkhcfhomaaDoor.Math

def decB (i : Nat) : ByteArray := ⟨(Lib.decDigits i).toArray⟩
def pB (a b : ByteArray) : ByteArray := (⟨#[40]⟩ : ByteArray) ++ a ++ ⟨#[32]⟩ ++ b ++ ⟨#[41]⟩
/-- The texts after the joins. -/
def txtF : List (Nat × Nat × Nat) → (Nat → ByteArray) → (Nat → ByteArray)
  | [], T => T
  | x :: r, T => txtF r (fun i => if i = x.2.1 then ⟨#[]⟩ else if i = x.1 then pB (T x.1) (T x.2.1) else T i)
def sumS (T : Nat → ByteArray) : Nat → Nat
  | 0 => 0
  | n + 1 => sumS T n + (T n).size
theorem sumS_ge (T : Nat → ByteArray) : ∀ (n i : Nat), i < n → (T i).size ≤ sumS T n
  | n + 1, i, h => by
    rw [sumS]
    rcases Nat.lt_or_ge i n with h1 | h1
    · have := sumS_ge T n i h1; omega
    · obtain rfl : i = n := by omega
      omega
theorem sumS_ext {T U : Nat → ByteArray} : ∀ (n : Nat), (∀ i, i < n → (T i).size = (U i).size) → sumS T n = sumS U n
  | 0, _ => rfl
  | n + 1, h => by rw [sumS, sumS, sumS_ext n (fun i hi => h i (by omega)), h n (by omega)]
theorem sumS_one {T : Nat → ByteArray} {a : Nat} {v : ByteArray} : ∀ (n : Nat), a < n → sumS (fun i => if i = a then v else T i) n + (T a).size = sumS T n + v.size
  | n + 1, h => by
    rw [sumS, sumS]
    rcases Nat.lt_or_ge a n with h1 | h1
    · have := sumS_one (T := T) (v := v) n h1
      rw [if_neg (by omega)]
      omega
    · obtain rfl : a = n := by omega
      rw [if_pos rfl, sumS_ext (T := fun i => if i = a then v else T i) (U := T) a (fun i hi => by simp [show i ≠ a by omega])]
      omega
theorem pB_size (a b : ByteArray) : (pB a b).size = a.size + b.size + 3 := by
  unfold pB
  rw [ByteArray.size_append, ByteArray.size_append, ByteArray.size_append, ByteArray.size_append]
  show 1 + a.size + 1 + b.size + 1 = _
  omega
theorem sumS_join {T : Nat → ByteArray} {n a b : Nat} (ha : a < n) (hb : b < n) (hne : a ≠ b) : sumS (fun i => if i = b then ⟨#[]⟩ else if i = a then pB (T a) (T b) else T i) n = sumS T n + 3 := by
  have h1 := sumS_one (T := fun i => if i = a then pB (T a) (T b) else T i) (a := b) (v := ⟨#[]⟩) n hb
  have h2 := sumS_one (T := T) (a := a) (v := pB (T a) (T b)) n ha
  rw [pB_size] at h2
  rw [if_neg (fun h => hne h.symm)] at h1
  have e : (⟨#[]⟩ : ByteArray).size = 0 := rfl
  rw [e] at h1
  omega
theorem decDigits_len : ∀ (k n : Nat), n < 10 ^ (k + 1) → (Lib.decDigits n).length ≤ k + 1
  | 0, n, h => by
    rw [Lib.decDigits]
    simp at h
    simp [h]
  | k + 1, n, h => by
    rw [Lib.decDigits]
    split
    · simp
    · have := decDigits_len k (n / 10) (by rw [Nat.pow_succ] at h; omega)
      simp
      omega
theorem joinL_mem {m : Nat} : ∀ (o S : List Nat), Starts m S → OrdOk S.length o → ∀ x ∈ joinL m S o, x.1 < x.2.1 ∧ x.2.1 < m
  | [], _, _, _, x, hx => by cases hx
  | k :: r, S, hS, ho, x, hx => by
    have hh := ho.head
    have hl : (S.eraseIdx (k + 1)).length = S.length - 1 := by rw [List.length_eraseIdx, if_pos hh.1]
    rw [joinL, List.mem_cons] at hx
    rcases hx with rfl | hx
    · show S.getD k 0 < S.getD (k + 1) m ∧ S.getD (k + 1) m < m
      rw [getD_at (d := 0) (show k < S.length by omega), getD_at hh.1]
      exact ⟨getElem_lt_of hS.up hh.1 (by omega), hS.lt _ (List.getElem_mem _)⟩
    · exact joinL_mem r _ (hS.erase k) (by rw [hl]; exact hh.2) x hx
theorem infoStr : (Tryd.prog.info? 9).map (fun i => (i.zero, i.size, i.bytes)) = some (some (.string ⟨#[]⟩), 1, 16) := by kernel_rfl
/-- The memory of Text's second loop. -/
def TSt (w1 w : World) (M : Nat) (L : List (Nat × Nat × Nat)) (j : Nat) : Prop :=
  ∃ T : Nat → ByteArray, Row w w1.heap.size M (fun q => .string (T q)) ∧ txtF (L.drop j) T 0 = txtF L decB 0 ∧ sumS T M ≤ 4 * M + 3 * j ∧ Below w1.heap.size w1 w
set_option maxHeartbeats 2000000 in
set_option maxRecDepth 20000 in
theorem text_calls (m : Int) (A : Option Addr) (c : Nat) (o : List Int) (w : World) (Ae : Nat → Addr) (hE : ErrsL [0, 8] w Ae) (hr : Kd.C (Kd.int .i64) w A o.length o) (hm : -9223372036854775808 ≤ m ∧ m ≤ 9223372036854775807) (hl : o.length ≤ 17592186044415)
    (hI : ∀ i : Nat, i < 4096 → (i : Int) < m → ∀ W, Below w.heap.size w W → Calls Tryd.prog 44 #[.int .i64 i] W fun e w' => e = .returned (.string (decB i)) ∧ Below W.heap.size W w') :
    Calls Tryd.prog 27 #[.int .i64 m, .slice A o.length c] w fun e w' => Below w.heap.size w w' ∧ ((∃ k, ordE m o = k + 1 ∧ e = .returned (.tuple #[.string ⟨#[]⟩, .iface 133 (.pointer (some (Ae k)))])) ∨
      (ordE m o = 0 ∧ 4096 < m ∧ e = .returned (.tuple #[.string ⟨#[]⟩, .iface 133 (.pointer (some (Ae 0)))])) ∨
      (ordE m o = 0 ∧ m ≤ 4096 ∧ e = .returned (.tuple #[.string (txtF (joinL m.toNat (List.range m.toNat) (o.map Int.toNat)) decB 0), .nilIface]))) := by
  have HJ := Lib.hid (joins_calls m A c o w Ae hE hr hm hl)
  have HE := Lib.hid hE
  have HI := Lib.hid hI
  clear hr hE hI
  go_enter Tryd.func27, Tryd.ntmps27
  go_wp2_with (fail)
  go_at_call 10
  refine HJ.out.mono ?_
  rintro e w1 ⟨hb1, hcase⟩
  have HB1 := Lib.hid hb1
  clear hb1
  rcases hcase with ⟨k, hk, rfl⟩ | ⟨h0, v, rfl, hv⟩
  · have HK := Lib.hid hk
    clear hk
    go_wp2
    go_ret2
    exact ⟨HB1.out, .inl ⟨k, HK.out, rfl⟩⟩
  · by_cases hbig : 4096 < m
    · have e0 := (HE.out.below HB1.out).cells 0 (by decide)
      simp only [GE, List.getD_cons_zero] at e0
      have H0 := Lib.hid h0
      clear h0 hv
      go_upto_region 5 with (fail)
      go_quiet (fail)
      go_wp2
      go_ret2
      exact ⟨pw_below_drewN HB1.out _, .inr (.inl ⟨H0.out, hbig, rfl⟩)⟩
    · obtain ⟨hm1, -, -, hok⟩ := ordE_ok h0
      obtain ⟨M, rfl⟩ : ∃ M : Nat, m = (M : Int) := ⟨m.toNat, by omega⟩
      rw [Int.toNat_natCast] at hv hok
      have HMem : Hid (∀ x ∈ joinL M (List.range M) (o.map Int.toNat), x.1 < x.2.1 ∧ x.2.1 < M) := Lib.hid (joinL_mem _ _ (Starts.range M) (by rw [List.length_range]; exact hok))
      have HLn : Hid ((joinL M (List.range M) (o.map Int.toNat)).length < M) := Lib.hid (by rw [joinL_length]; have := hok.1; omega)
      obtain ⟨L, HLd⟩ : ∃ L, Hid (joinL M (List.range M) (o.map Int.toNat) = L) := ⟨_, Lib.hid rfl⟩
      rw [HLd.out] at hv HMem HLn
      obtain ⟨B, d, rfl⟩ := Kd.R_slice hv
      have HV := Lib.hid (Kd.R_reads' hv).2.2
      have hcap := (Kd.R_reads' hv).2.1
      simp only [List.length_map] at HV hcap
      rw [List.length_map]
      have hM : M ≤ 4096 := by omega
      have hM1 : 1 ≤ M := by omega
      have hL4 : L.length < 4096 := by have := HLn.out; omega
      have H0 := Lib.hid h0
      clear h0 hv hok
      have hmk : ∀ W : World, (Instr.makeSlice 68 (.int .i64 (M : Int)) (.int .i64 (M : Int))).run Tryd.prog W = .ok (.slice (some ⟨W.heap.size, 0, none⟩) M M) (W.alloc (.cells (madeCells #[.string ⟨#[]⟩] M) 9)) := fun W =>
        print_make_of (P := Tryd.prog) 68 9 (.string ⟨#[]⟩) 16 Tryd.underlying68 infoStr rfl (by decide) M (by omega) W
      obtain ⟨w2, hw2⟩ : ∃ w2, w1.alloc (.cells (madeCells #[.string ⟨#[]⟩] M) 9) = w2 := ⟨_, rfl⟩
      have hb2 : Below w1.heap.size w1 w2 := by rw [← hw2]; exact below_alloc (Below.refl _ _) _
      have hrow2 : Row w2 w1.heap.size M (fun _ => .string ⟨#[]⟩) := by rw [← hw2]; exact Row.made w1 _ _ _
      have HB2 := Lib.hid hb2
      have HRow2 := Lib.hid hrow2
      clear hb2 hrow2
      go_wp2
      clear hw2 hmk
      go_loopw [27] (fun x wr => ∃ i : Nat, x = .int .i64 i ∧ i ≤ M ∧ Hid (∃ T : Nat → ByteArray, Row wr w1.heap.size M (fun q => .string (T q)) ∧ (∀ q, q < i → T q = decB q) ∧ Below w1.heap.size w1 wr)) (fun x _ => M - (intOf x).toNat)
      case atStart => exact ⟨0, rfl, by omega, Lib.hid ⟨_, HRow2.out, fun q h => by omega, HB2.out⟩⟩
      case round =>
        obtain ⟨i, rfl, hi, HS⟩ := hrel
        obtain ⟨T, k1, k2, k3⟩ := HS.out
        have HB3 := Lib.hid k3
        by_cases hlt : i < M
        · have HR3 := Lib.hid k1
          have HT3 := Lib.hid k2
          have HCl := Lib.hid (HI.out i (by omega) (by omega) wr (HB1.out.trans (k3.mono HB1.out.size)))
          clear k1 k2 k3
          go_wp2_with (fail)
          go_at_call 44
          refine HCl.out.mono ?_
          rintro e w4 ⟨rfl, hb4⟩
          have hr4 := HR3.out.below hb4
          have ci := hr4.cell i hlt
          have fi := hr4.free i
          have HR4 := Lib.hid hr4
          have HB4 := Lib.hid (HB3.out.trans (hb4.mono HB3.out.size))
          clear hr4 hb4
          go_wp2
          go_roundw
          case rel => exact ⟨i + 1, by go_num, by omega, Lib.hid ⟨fun q => if q = i then decB i else T q, (HR4.out.set i hlt _).ext (fun q _ => by show (if q = i then Value.string (decB i) else Value.string (T q)) = Value.string (if q = i then decB i else T q); split <;> rfl), fun q hq => by
            show (if q = i then decB i else T q) = decB q
            by_cases e : q = i
            · rw [if_pos e, e]
            · rw [if_neg e]; exact HT3.out q (by omega), HB4.out.setCell (Nat.le_refl _) _⟩⟩
          case measure => simp [intOf]; omega
        · obtain rfl : i = M := by omega
          have hdec : ∀ q, q < i → (decB q).size ≤ 4 := fun q hq => decDigits_len 3 q (by omega)
          have hsum : ∀ n, n ≤ i → sumS decB n ≤ 4 * n := by
            intro n
            induction n with
            | zero => intro _; simp [sumS]
            | succ n ih =>
              intro h
              rw [sumS]
              have := ih (by omega)
              have := hdec n (by omega)
              omega
          have HS0 : Hid (TSt w1 wr i L 0) := Lib.hid ⟨decB, k1.ext (fun q hq => by rw [k2 q hq]), by simp, by have := hsum i (Nat.le_refl _); omega, k3⟩
          clear k1 k2 k3 hdec hsum
          obtain ⟨wo, rfl⟩ : ∃ wo : World, wo = wr := ⟨_, rfl⟩
          go_wp2
          go_loopw [38] (fun x wr => ∃ j : Nat, x = .int .i64 j ∧ j ≤ L.length ∧ Hid (TSt w1 wr i L j)) (fun x _ => L.length - (intOf x).toNat)
          case atStart => exact ⟨0, rfl, by omega, HS0⟩
          case round =>
            obtain ⟨j, rfl, hj, HS⟩ := hrel
            obtain ⟨T, k1, k2, k3, k4⟩ := HS.out
            by_cases hlt : j < L.length
            · obtain ⟨⟨a, b, c3⟩, hLj⟩ : ∃ p, L[j] = p := ⟨_, rfl⟩
              have hab := HMem.out _ (List.getElem_mem hlt)
              rw [hLj] at hab
              have hab1 : a < b := hab.1
              have hab2 : b < i := hab.2
              obtain ⟨ad, x, y, z, rfl, hx, hy, hz, HX⟩ := at_K3 (by rw [List.length_map]; exact Kd.C_below HV.out k4) j (by rw [List.length_map]; exact hlt)
              obtain ⟨rfl, rfl, rfl⟩ : (x = (a : Int)) ∧ (y = (b : Int)) ∧ z = (c3 : Int) := by
                have h := HX.out
                rw [List.getD_eq_getElem?_getD, List.getElem?_map, List.getElem?_eq_getElem hlt, hLj] at h
                simp [tI] at h
                exact ⟨h.1.symm, h.2.1.symm, h.2.2.symm⟩
              have ca := k1.cell a (by omega)
              have cb := k1.cell b (by omega)
              have fa := k1.free a
              have fb := k1.free b
              have za := sumS_ge T i a (by omega)
              have zb := sumS_ge T i b (by omega)
              obtain ⟨ta, hta⟩ : ∃ t, T a = t := ⟨_, rfl⟩
              obtain ⟨tb, htb⟩ : ∃ t, T b = t := ⟨_, rfl⟩
              rw [hta] at ca za
              rw [htb] at cb zb
              have za2 : ta.size ≤ 40000 := by omega
              have zb2 : tb.size ≤ 40000 := by omega
              clear za zb
              have hg1 := k1.lt
              go_upto_region 15 with (fail)
              obtain ⟨w5, hw5⟩ : ∃ w5, wr.alloc (.cells #[.int .i64 (a : Int), .int .i64 (b : Int), .int .i64 (c3 : Int)] 29) = w5 := ⟨_, rfl⟩
              rw [hw5]
              have hb5 : Below wr.heap.size wr w5 := by rw [← hw5]; exact below_alloc (Below.refl _ _) _
              have q0 : w5.cell? ⟨wr.heap.size, 0, none⟩ = some (.int .i64 (a : Int)) := by rw [← hw5]; simp [go_sem]
              have q1 : w5.cell? ⟨wr.heap.size, 1, none⟩ = some (.int .i64 (b : Int)) := by rw [← hw5]; simp [go_sem]
              have da : w5.cell? ⟨w1.heap.size, a, none⟩ = some (.string ta) := (hb5.cell (p := ⟨w1.heap.size, a, none⟩) hg1).trans ca
              have db : w5.cell? ⟨w1.heap.size, b, none⟩ = some (.string tb) := (hb5.cell (p := ⟨w1.heap.size, b, none⟩) hg1).trans cb
              have ga : w5.frozen? ⟨w1.heap.size, a, none⟩ = false := (hb5.frozen (p := ⟨w1.heap.size, a, none⟩) hg1).trans fa
              have gb : w5.frozen? ⟨w1.heap.size, b, none⟩ = false := (hb5.frozen (p := ⟨w1.heap.size, b, none⟩) hg1).trans fb
              have HB5 := Lib.hid hb5
              have HK1 := Lib.hid k1
              have HK2 := Lib.hid k2
              have HK3 := Lib.hid k3
              have HK4 := Lib.hid k4
              have hab3 : a < i := by omega
              have hne : a ≠ b := by omega
              have HTa := Lib.hid hta
              have HTb := Lib.hid htb
              have HLj := Lib.hid hLj
              clear hw5 hb5 ca cb fa fb k1 k2 k3 k4 hta htb hx hy hz hLj
              go_region
              obtain ⟨w6, hw6⟩ : ∃ w6, (w5.setCell ⟨w1.heap.size, a, none⟩ (.string (pB ta tb))).drew = w6 := ⟨_, rfl⟩
              have hr6 : Row w6 w1.heap.size i (fun q => .string (if q = a then pB ta tb else T q)) := by
                rw [← hw6]
                exact (((HK1.out.below HB5.out).set a (by omega) _).below (Below.refl _ _).drew).ext (fun q _ => by split <;> rfl)
              have hb6 : Below w1.heap.size w1 w6 := by
                rw [← hw6]
                exact ((HK4.out.trans (HB5.out.mono HK4.out.size)).setCell (by exact Nat.le_refl _) _).drew
              have r1 : w6.cell? ⟨wr.heap.size, 1, none⟩ = some (.int .i64 (b : Int)) := by
                rw [← hw6]
                refine (World.cell?_setCell_other _ _ _ _ (by intro e; injection e with e; omega)).trans q1
              have cb := hr6.cell b (by omega)
              have fb := hr6.free b
              rw [if_neg (fun h => hne h.symm)] at cb
              have HR6 := Lib.hid hr6
              have HB6 := Lib.hid hb6
              rw [show (w5.setCell ⟨w1.heap.size, a, none⟩ (.string ((⟨#[40]⟩ : ByteArray) ++ ta ++ ⟨#[32]⟩ ++ tb ++ ⟨#[41]⟩))).drew = w6 from hw6]
              clear q0 q1 da db ga gb hw6 hr6 hb6
              go_wp2
              go_roundw
              case rel => exact ⟨j + 1, by go_num, by omega, Lib.hid ⟨fun q => if q = b then ⟨#[]⟩ else if q = a then pB (T a) (T b) else T q, by
                  refine (HR6.out.set b hab2 _).ext (fun q _ => ?_)
                  show (if q = b then Value.string ⟨#[]⟩ else Value.string (if q = a then pB ta tb else T q)) = Value.string (if q = b then ⟨#[]⟩ else if q = a then pB (T a) (T b) else T q)
                  rw [HTa.out, HTb.out]
                  split <;> rfl, by
                  rw [← HK2.out, List.drop_eq_getElem_cons hlt, HLj.out, txtF], by
                  rw [sumS_join (T := T) (n := i) (a := a) (b := b) (by omega) hab2 hne]
                  have := HK3.out; omega, HB6.out.setCell (by exact Nat.le_refl _) _⟩⟩
              case measure => simp [intOf]; omega
            · obtain rfl : j = L.length := by omega
              rw [List.drop_of_length_le (Nat.le_refl _), txtF] at k2
              have c0 := k1.cell 0 (by omega)
              have HK2 := Lib.hid k2
              have HK4 := Lib.hid k4
              clear k2 k4
              go_wp2
              go_ret2
              refine ⟨HB1.out.trans (HK4.out.mono HB1.out.size), .inr (.inr ⟨H0.out, by omega, ?_⟩)⟩
              rw [Int.toNat_natCast, HLd.out, ← HK2.out]
              rfl
end Go.Proofs.YtcikcnkhcfhomaaDoor.Hand
/- Chapter 22's awake: answers that the document names. -/
namespace Go.Proofs.YtcikcnkhcfhomaaDoor.Hand
open Go.RowKit Go.Proofs.YtcikcnkhcfhomaaDoorW.PrintWords Go.Proofs.YtcikcnkhcfhomaaDoorW.PrintMore Go.Proofs.YtcikcnkhcfhomaaDoor.Math

theorem add_off (b j : Nat) : (Addr.add ⟨b, 0, none⟩ j) = ⟨b, j, none⟩ := by
  unfold Addr.add
  split
  · rename_i h0; rw [h0]
  · simp
theorem C2_of {w : World} {b : Nat} {l : List (Int × Int)} (hm : l.length ≤ 1000) (h : ∀ j x, l[j]? = some x → w.cell? ⟨b, j * 2, none⟩ = some (.int .i64 x.1) ∧ w.cell? ⟨b, j * 2 + 1, none⟩ = some (.int .i64 x.2)) : K2.C w (some ⟨b, 0, none⟩) l.length l := by
  refine ⟨rfl, by have : maxLen = 9223372036854775807 := (by decide); omega, fun _ => ⟨_, rfl, fun j r hj => ?_⟩⟩
  obtain ⟨h1, h2⟩ := h j r hj
  refine ⟨[.int .i64 r.1, .int .i64 r.2], rfl, ⟨[.int .i64 r.1], [.int .i64 r.2], rfl, rfl, rfl⟩, fun i u hu => ?_⟩
  rw [show K2.sz = 2 from rfl, add_off]
  match i, hu with
  | 0, hu => simp at hu; subst hu; exact h1
  | 1, hu => simp at hu; subst hu; exact h2
  | i + 2, hu => simp at hu
theorem C3_of {w : World} {b : Nat} {l : List (Int × Int × Int)} (hm : l.length ≤ 1000) (h : ∀ j x, l[j]? = some x → w.cell? ⟨b, j * 3, none⟩ = some (.int .i64 x.1) ∧ w.cell? ⟨b, j * 3 + 1, none⟩ = some (.int .i64 x.2.1) ∧ w.cell? ⟨b, j * 3 + 2, none⟩ = some (.int .i64 x.2.2)) : K3.C w (some ⟨b, 0, none⟩) l.length l := by
  refine ⟨rfl, by have : maxLen = 9223372036854775807 := (by decide); omega, fun _ => ⟨_, rfl, fun j r hj => ?_⟩⟩
  obtain ⟨h1, h2, h3⟩ := h j r hj
  refine ⟨[.int .i64 r.1, .int .i64 r.2.1, .int .i64 r.2.2], rfl, ⟨[.int .i64 r.1], [.int .i64 r.2.1, .int .i64 r.2.2], rfl, rfl, [.int .i64 r.2.1], [.int .i64 r.2.2], rfl, rfl, rfl⟩, fun i u hu => ?_⟩
  rw [show K3.sz = 3 from rfl, add_off]
  match i, hu with
  | 0, hu => simp at hu; subst hu; exact h1
  | 1, hu => simp at hu; subst hu; exact h2
  | 2, hu => simp at hu; subst hu; exact h3
  | i + 3, hu => simp at hu
theorem litI (xs : List Int) (W : World) (hx : xs.length ≤ 1000) : Kd.C (Kd.int .i64) (W.alloc (.cells (xs.map (Value.int .i64)).toArray 3)) (some ⟨W.heap.size, 0, none⟩) xs.length xs := by
  have h := (Kd.R_reads' (R_lit (enc := Value.int .i64) (h1 := fun _ => rfl) 3 W.heap.size W xs (Nat.le_refl _) (by unfold maxLen; omega))).2.2
  exact h
theorem dec1 (n : Nat) (h : n < 10) : decB n = ⟨#[UInt8.ofNat (48 + n)]⟩ := by
  unfold decB
  rw [Lib.decDigits, dif_pos h]
theorem text4 : txtF [(1, 2, 3), (0, 1, 3), (0, 3, 4)] decB 0 = ⟨#[40, 40, 48, 32, 40, 49, 32, 50, 41, 41, 32, 51, 41]⟩ := by
  simp only [txtF]
  simp [pB, dec1]
  rfl
theorem two_lit (W W' : World) (b : Nat) (hb : W.heap.size = b) (hW : W' = W.alloc (.cells #[.int .i64 0, .int .i64 2, .int .i64 2, .int .i64 2, .int .i64 2, .int .i64 4, .int .i64 4, .int .i64 5] 44)) : K2.C W' (some ⟨b, 0, none⟩) 4 [(0, 2), (2, 2), (2, 4), (4, 5)] := by
  subst hb hW
  refine C2_of (by simp) (fun j x hj => ?_)
  match j, hj with
  | 0, hj => simp at hj; subst hj; simp [go_sem]
  | 1, hj => simp at hj; subst hj; simp [go_sem]
  | 2, hj => simp at hj; subst hj; simp [go_sem]
  | 3, hj => simp at hj; subst hj; simp [go_sem]
  | j + 4, hj => simp at hj
theorem three_lit (W W' : World) (b : Nat) (hb : W.heap.size = b) (hW : W' = W.alloc (.cells #[.int .i64 1, .int .i64 2, .int .i64 3, .int .i64 0, .int .i64 1, .int .i64 3, .int .i64 0, .int .i64 3, .int .i64 4] 29)) : K3.C W' (some ⟨b, 0, none⟩) 3 [(1, 2, 3), (0, 1, 3), (0, 3, 4)] := by
  subst hb hW
  refine C3_of (by simp) (fun j x hj => ?_)
  match j, hj with
  | 0, hj => simp at hj; subst hj; simp [go_sem]
  | 1, hj => simp at hj; subst hj; simp [go_sem]
  | 2, hj => simp at hj; subst hj; simp [go_sem]
  | j + 3, hj => simp at hj
theorem joins4 : ((joinL (4 : Int).toNat (List.range (4 : Int).toNat) (([1, 0, 0] : List Int).map Int.toNat))) = [(1, 2, 3), (0, 1, 3), (0, 3, 4)] := by decide
set_option maxHeartbeats 1000000 in
theorem awake_calls (w : World) (Ae : Nat → Addr) (hE : ErrsL [0, 7, 8] w Ae) : Calls Tryd.prog 11 #[] w fun e w' => e = .returned (.bool true) ∧ Below w.heap.size w w' := by
  have HC : Hid (∀ (W : World) (b : Nat), Below w.heap.size w W → W.heap.size = b → Calls Tryd.prog 21 #[.int .i64 5, .slice (some ⟨b, 0, none⟩) 3 3] (W.alloc (.cells #[.int .i64 2, .int .i64 2, .int .i64 4] 3)) fun e w' => ∃ B d, e = .returned (.tuple #[.slice B 4 d, .nilIface]) ∧ K2.C w' B 4 [(0, 2), (2, 2), (2, 4), (4, 5)] ∧ Below w.heap.size w w') := Lib.hid (fun W b hW hb => by
    subst hb
    have hb1 : Below w.heap.size w (W.alloc (.cells #[.int .i64 2, .int .i64 2, .int .i64 4] 3)) := below_alloc hW _
    refine (cut_calls 5 (some ⟨W.heap.size, 0, none⟩) 3 [2, 2, 4] _ Ae ((hE.sub (by decide)).below hb1) (litI [2, 2, 4] W (by decide)) (by decide)).mono ?_
    rintro e w' ⟨hb, ⟨k, hk, -⟩ | ⟨-, B, d, rfl, hR⟩⟩
    · rw [show cutE 5 [2, 2, 4] = 0 by decide] at hk; cases hk
    · exact ⟨B, 4, rfl, (Kd.R_reads' hR).2.2, below_next hb1 hb⟩)
  have HJ : Hid (∀ (W : World) (b : Nat), Below w.heap.size w W → W.heap.size = b → Calls Tryd.prog 10 #[.int .i64 4, .slice (some ⟨b, 0, none⟩) 3 3] (W.alloc (.cells #[.int .i64 1, .int .i64 0, .int .i64 0] 3)) fun e w' => ∃ B d, e = .returned (.tuple #[.slice B 3 d, .nilIface]) ∧ K3.C w' B 3 [(1, 2, 3), (0, 1, 3), (0, 3, 4)] ∧ Below w.heap.size w w' ∧ Below W.heap.size W w') := Lib.hid (fun W b hW hb => by
    subst hb
    have hb0 : Below W.heap.size W (W.alloc (.cells #[.int .i64 1, .int .i64 0, .int .i64 0] 3)) := below_alloc (Below.refl _ _) _
    have hb1 := below_next hW hb0
    refine (joins_calls 4 (some ⟨W.heap.size, 0, none⟩) 3 [1, 0, 0] _ Ae ((hE.sub (by decide)).below hb1) (litI [1, 0, 0] W (by decide)) (by decide) (by decide)).mono ?_
    rintro e w' ⟨hb, ⟨k, hk, -⟩ | ⟨-, v, rfl, hR⟩⟩
    · rw [show ordE 4 [1, 0, 0] = 0 by decide] at hk; cases hk
    · rw [joins4] at hR
      obtain ⟨B, d, rfl⟩ := Kd.R_slice hR
      exact ⟨B, d, rfl, (Kd.R_reads' hR).2.2, below_next hb1 hb, below_next hb0 hb⟩)
  have HT : Hid (∀ (W : World) (b : Nat), Below w.heap.size w W → W.heap.size = b → Calls Tryd.prog 27 #[.int .i64 4, .slice (some ⟨b, 0, none⟩) 3 3] (W.alloc (.cells #[.int .i64 1, .int .i64 0, .int .i64 0] 3)) fun e w' => e = .returned (.tuple #[.string ⟨#[40, 40, 48, 32, 40, 49, 32, 50, 41, 41, 32, 51, 41]⟩, .nilIface]) ∧ Below w.heap.size w w' ∧ Below W.heap.size W w') := Lib.hid (fun W b hW hb => by
    subst hb
    have hb0 : Below W.heap.size W (W.alloc (.cells #[.int .i64 1, .int .i64 0, .int .i64 0] 3)) := below_alloc (Below.refl _ _) _
    have hb1 := below_next hW hb0
    refine (text_calls 4 (some ⟨W.heap.size, 0, none⟩) 3 [1, 0, 0] _ Ae ((hE.sub (by decide)).below hb1) (litI [1, 0, 0] W (by decide)) (by decide) (by decide) (fun i _ hi W2 _ => (Tryd.strconv_Itoa_small i (by omega) W2).mono (fun e w' h => ⟨h.1, by rw [h.2]; exact Below.refl _ _⟩))).mono ?_
    rintro e w' ⟨hb, ⟨k, hk, -⟩ | ⟨-, h4, -⟩ | ⟨-, -, rfl⟩⟩
    · rw [show ordE 4 [1, 0, 0] = 0 by decide] at hk; cases hk
    · omega
    · rw [joins4, text4]
      exact ⟨rfl, below_next hb1 hb, below_next hb0 hb⟩)
  go_enter Tryd.func11, Tryd.ntmps11
  go_wp2_with (fail)
  go_at_call 21
  refine (HC.out w _ (Below.refl _ _) rfl).mono ?_
  rintro e w2 ⟨B2, d2, rfl, hC2, hb2⟩
  have HC2 := Lib.hid hC2
  have HB2 := Lib.hid hb2
  clear hC2 hb2
  go_wp2_with (fail)
  go_at_call 10
  refine (HJ.out w2 _ HB2.out rfl).mono ?_
  rintro e w3 ⟨B3, d3, rfl, hC3, hb3, hb23⟩
  have HC3 := Lib.hid hC3
  have HB3 := Lib.hid hb3
  have HB23 := Lib.hid hb23
  clear hC3 hb3 hb23
  go_wp2_with (fail)
  go_at_call 27
  refine (HT.out w3 _ HB3.out rfl).mono ?_
  rintro e w4 ⟨rfl, hb4, hb34⟩
  have HB4 := Lib.hid hb4
  have HB34 := Lib.hid hb34
  clear hb4 hb34
  go_wp2_with (fail)
  have hc2 := two_lit w4 _ _ rfl rfl
  have hc2' := Kd.C_alloc (Kd.C_below (Kd.C_below HC2.out HB23.out) HB34.out) (.cells #[.int .i64 0, .int .i64 2, .int .i64 2, .int .i64 2, .int .i64 2, .int .i64 4, .int .i64 4, .int .i64 5] 44)
  go_at_call 24
  refine (twos_calls B2 _ d2 4 [(0, 2), (2, 2), (2, 4), (4, 5)] [(0, 2), (2, 2), (2, 4), (4, 5)] _ hc2' hc2).mono ?_
  rintro e w' ⟨rfl, n1, rfl⟩
  rw [decide_eq_true rfl]
  obtain ⟨w5, hw5⟩ : ∃ w5, (w4.alloc (.cells #[.int .i64 0, .int .i64 2, .int .i64 2, .int .i64 2, .int .i64 2, .int .i64 4, .int .i64 4, .int .i64 5] 44)).drewN n1 = w5 := ⟨_, rfl⟩
  have hb45 : Below w4.heap.size w4 w5 := by rw [← hw5]; exact pw_below_drewN (below_alloc (Below.refl _ _) _) _
  rw [hw5]
  have HB45 := Lib.hid hb45
  clear hc2 hc2' hw5 hb45
  go_wp2_with (fail)
  have hc3 := three_lit w5 _ _ rfl rfl
  have hc3' := Kd.C_alloc (Kd.C_below (Kd.C_below HC3.out HB34.out) HB45.out) (.cells #[.int .i64 1, .int .i64 2, .int .i64 3, .int .i64 0, .int .i64 1, .int .i64 3, .int .i64 0, .int .i64 3, .int .i64 4] 29)
  go_at_call 29
  refine (threes_calls B3 _ d3 3 [(1, 2, 3), (0, 1, 3), (0, 3, 4)] [(1, 2, 3), (0, 1, 3), (0, 3, 4)] _ hc3' hc3).mono ?_
  rintro e w' ⟨rfl, n2, rfl⟩
  rw [decide_eq_true rfl]
  clear hc3 hc3'
  go_wp2
  go_ret
  exact ⟨ret_bool (by simp), pw_below_drewN (below_alloc (below_next HB4.out HB45.out) _) _⟩
end Go.Proofs.YtcikcnkhcfhomaaDoor.Hand
/- Rows of one's own that may have been cut to their length: their first append goes to new memory; rows that share none. -/
namespace Go.Proofs.YtcikcnkhcfhomaaDoor.Hand
open Go.RowKit Go.Proofs.YtcikcnkhcfhomaaDoorW.PrintWords Go.Proofs.YtcikcnkhcfhomaaDoorW.PrintMore Go.Proofs.YtcikcnkhcfhomaaDoor.Math

/-- A row of the call's own, its room perhaps cut to its length. -/
def RC {α : Type} (d : Kd α) (e : Nat) (w : World) (base : Nat) (v : Value) (xs : List α) : Prop :=
  ∃ A c cap, v = .slice A xs.length c ∧ (c = cap ∨ c = xs.length) ∧ d.R e w base (fun _ => True) (.slice A xs.length cap) xs
/-- They share no block. -/
def disj (u v : Value) : Prop := ∀ k, u.ownBlock = some k → v.ownBlock ≠ some k
theorem disj.symm {u v : Value} (h : disj u v) : disj v u := fun k h1 h2 => h k h2 h1
theorem disj_nil (v : Value) : disj v (.slice none 0 0) := fun k _ h => by simp [Value.ownBlock] at h
section
variable {α : Type} {d : Kd α} {e base : Nat} {w w1 : World} {v : Value} {xs : List α}
theorem RC.of_R (h : d.R e w base (fun _ => True) v xs) : RC d e w base v xs := by
  obtain ⟨A, c, rfl⟩ := Kd.R_slice h
  exact ⟨A, c, c, rfl, .inl rfl, h⟩
theorem RC.nil : RC d e w base (.slice none 0 0) [] := .of_R (Kd.R_nil _ _ _ _ _)
theorem RC.cut {A : Option Addr} {cap : Nat} (h : d.R e w base (fun _ => True) (.slice A xs.length cap) xs) : RC d e w base (.slice A xs.length xs.length) xs := ⟨A, _, cap, rfl, .inr rfl, h⟩
theorem RC.below (h : RC d e w base v xs) (hb : Below w.heap.size w w1) : RC d e w1 base v xs := by
  obtain ⟨A, c, cap, e1, e2, h⟩ := h
  exact ⟨A, c, cap, e1, e2, Kd.R_below h hb⟩
theorem RC.lower {b' : Nat} (h : RC d e w base v xs) (hb : b' ≤ base) : RC d e w b' v xs := by
  obtain ⟨A, c, cap, e1, e2, h⟩ := h
  exact ⟨A, c, cap, e1, e2, Kd.R_lower h hb⟩
theorem RC.reads (h : RC d e w base v xs) : ∃ A c, v = .slice A xs.length c ∧ xs.length ≤ c ∧ d.C w A xs.length xs := by
  obtain ⟨A, c, cap, rfl, e2, h⟩ := h
  obtain ⟨h1, h2, h3⟩ := Kd.R_reads' h
  exact ⟨A, c, rfl, by omega, h3⟩
theorem RC.C {A : Option Addr} {c : Nat} (h : RC d e w base (.slice A xs.length c) xs) : d.C w A xs.length xs := by
  obtain ⟨A', c', e1, _, e3⟩ := h.reads
  injection e1 with e1 _ _
  subst e1
  exact e3
theorem RC.form {n : Nat} (h : RC d e w base v xs) (hn : xs.length = n) : ∃ A c, v = .slice A n c ∧ n ≤ c ∧ d.C w A xs.length xs := by
  subst hn; exact h.reads
theorem ownBlock_slice (A : Option Addr) (n c : Nat) : (Value.slice A n c).ownBlock = A.map (·.block) := by cases A <;> rfl
theorem RC.lt (h : RC d e w base v xs) (k : Nat) (hk : v.ownBlock = some k) : base ≤ k ∧ k < w.heap.size := by
  obtain ⟨A, c, cap, rfl, e2, h⟩ := h
  rw [ownBlock_slice, ← ownBlock_slice A xs.length cap] at hk
  obtain ⟨inner, ho⟩ := Kd.R_own h
  exact ⟨own_base ho k hk, own_lt ho k hk⟩
/-- Another row is written: this one stays. -/
theorem RC.grown (h : RC d e w base v xs) (hE : d.E = []) {row : Option Nat} (hg : w.grownBy w1 row) (hne : ∀ k, row = some k → v.ownBlock ≠ some k) : RC d e w1 base v xs := by
  obtain ⟨A, c, cap, rfl, e2, h⟩ := h
  refine ⟨A, c, cap, rfl, e2, Kd.R_grown2 h hE hg (fun k hk hq => hne k hk ?_)⟩
  rw [ownBlock_slice] at hq ⊢
  exact hq.symm
theorem RC.disj_new {u : Value} {b : Nat} (h : RC d e w base v xs) (hu : u.ownBlock = some b) (hb : w.heap.size ≤ b) : disj u v := fun k h1 h2 => by
  have := (h.lt k h2).2
  rw [hu] at h1
  injection h1 with h1
  omega
/-- Made later: they share no block. -/
theorem RC.disj_later {β : Type} {d' : Kd β} {e' : Nat} {w' : World} {u : Value} {ys : List β} (h : RC d e w base v xs) (k : RC d' e' w' w.heap.size u ys) : disj u v := fun i h1 h2 => by
  have := (h.lt i h2).2
  have := (k.lt i h1).1
  omega
end
section
variable {P : Program} {ops : Array Oper} {rest : List Oper} {o : Oper} {a : Act} {Q : Exit → Act → World → Prop} {α : Type}
/-- append of one element. -/
theorem RC_append (d : Kd α) {w0 W : World} (base : Nat) (hgd : o.guard = none) (s x : Operand) (t e : TypeId) (z : Value) (bytes : Nat)
    (ho : o.op = .call { callee := .builtin .append, args := #[s, x], argTypes := #[t, t] })
    (ht : P.underlying t = some (.slice e)) (hinfo : (P.info? e).map (fun i => (i.zero, i.size, i.bytes)) = some (some z, d.sz, bytes)) (hz : z.cells.size = d.sz) (hs0 : 0 < d.sz) (hb0 : 0 < bytes)
    (v : Value) (xs : List α) (p : α) (cs : List Value) (hs : a.eval s = v) (hx : a.eval x = .slice (some ⟨W.heap.size, 0, none⟩) 1 1) (hp : d.M W base (fun _ => False) p cs)
    (HO : RC d e W base v xs) (HB : Below base w0 W) (hbase : base ≤ W.heap.size) (hl : (xs.length + 1) * bytes ≤ 140737488355328)
    (h : ∀ v1 w1, RC d e w1 base v1 (xs ++ [p]) → Below base w0 w1 → W.grownBy w1 v.ownBlock → (v1.ownBlock = v.ownBlock ∨ ∃ b, v1.ownBlock = some b ∧ W.heap.size ≤ b) → wpList P ops Q rest (a.put o.dst v1) w1) :
    wpList P ops Q (o :: rest) a (W.alloc (.cells cs.toArray e)) := by
  obtain ⟨A, c, cap, rfl, hc, hR⟩ := HO
  rcases hc with rfl | rfl
  · exact Kd.R_append d (w0 := w0) base hgd s x t e z bytes ho ht hinfo hz hs0 hb0 _ xs p cs (fun _ => True) (fun _ => False) hs hx hp (fun _ hk => hk.elim) (fun _ _ => trivial) hR HB hbase hl
      (fun v1 w1 h1 h2 h3 h4 => h v1 w1 (.of_R h1) h2 h3 h4)
  · obtain ⟨i0, hi, hzz⟩ := Option.map_eq_some_iff.1 hinfo
    simp only [Prod.mk.injEq] at hzz
    obtain ⟨hz0, hz1, hz2⟩ := hzz
    have hlen : xs.length + 1 ≤ 140737488355328 := Nat.le_trans (Nat.le_mul_of_pos_right _ hb0) hl
    obtain ⟨h0, inner, hown, hr⟩ := hR
    have hcl : cs.length = d.sz := d.K_len (d.K_of_M hp)
    have hcells : ∀ b, A = some b → ∀ j u, inner[j]? = some u → (W.alloc (.cells cs.toArray e)).cell? (b.add j) = some u := fun b hb j u hu => by
      subst hb
      rcases hown.2 with ⟨hv, _⟩ | ⟨g, cap', cur, hv, _⟩
      · cases hv
      · injection hv with ha _ _
        injection ha with ha
        subst ha
        have h1 := hown.cells (g := g) rfl j u hu
        rw [World.cell?_alloc_lt _ _ _ (World.block_lt_of_cell? _ _ h1)]
        exact h1
    refine wpList_append_grows (P := P) _ hgd s x t ho e i0 z d.sz bytes ht hi hz0 hz1 hz2 hz hs0 A xs.length xs.length inner hs (fun hA => ?_) hr.1 hcells ⟨W.heap.size, 0, none⟩ 1 1 cs hx (by rw [hcl, Nat.one_mul])
      (World.news_of_block (cs := cs.toArray) (t := e) (fr := (0, 0)) (heap_alloc_new W _)) (d.K_one (d.K_of_M hp)) (by omega) (by simp only [maxLen]; omega) hl ?_
    · rcases hown.2 with ⟨_, h1⟩ | ⟨g, cap', cur, hv, _⟩
      · exact ⟨h1, h1⟩
      · subst hA; cases hv
    · intro v1 w1 hown1 hg1
      have hbk : ∀ k, v1.ownBlock = some k → W.heap.size ≤ k := fun k hk => by
        have := own_base hown1 k hk
        simp at this
        omega
      have hg2 : W.grownBy w1 none := World.grownBy.trans (World.grownBy_alloc W _ _) hg1
      have hg3 : W.grownBy w1 (Value.slice A xs.length cap).ownBlock := ⟨hg2.os, hg2.tape, hg2.output, hg2.size, fun k hk _ => hg2.block k hk (by simp)⟩
      have hat : ∃ b, v1.ownBlock = some b ∧ W.heap.size ≤ b := by
        rcases hown1.2 with ⟨_, h1⟩ | ⟨g, cap', cur, rfl, hb, _⟩
        · omega
        · exact ⟨g, rfl, hbk g rfl⟩
      have hR1 : d.R e w1 base (fun _ => True) v1 (xs ++ [p]) := Kd.R_appended h0 hr hp (fun _ hk => hk.elim) (fun _ _ => trivial) (own_less hown1 (by simp; omega)) hg3 (.inr hat)
      refine h v1 w1 (.of_R hR1) (HB.grown hg2 hbase (fun k hk => by cases hk)) ?_ (.inr hat)
      exact ⟨hg2.os, hg2.tape, hg2.output, hg2.size, fun k hk _ => hg2.block k hk (by simp)⟩
/-- A store into an element. -/
theorem RC_store (d : Kd α) {w0 W : World} (base : Nat) (hN : o.dst = none) (hgd : o.guard = none) (t : TypeId) (p x : Operand) (ho : o.op = .store t p x) (e : TypeId) {A : Option Addr} {c : Nat} (i : Nat) (xs : List α) (x' : α) (u : Value) (seg : List Value) (z : α)
    (haddr : a.eval p = .pointer (A.map (·.add (i * d.sz)))) (hx : a.eval x = u) (hu : u.cells.toList = seg) (ht : (P.info? t).map (·.size) = some seg.length) (h1 : ∀ q ∈ seg, q.oneCell' = true)
    (HO : RC d e W base (.slice A xs.length c) xs) (hi : i < xs.length) (hj : seg.length = d.sz) (hM : d.M W base (fun _ => False) x' seg) (HB : Below base w0 W)
    (h : ∀ w1, RC d e w1 base (.slice A xs.length c) (xs.set i x') → Below base w0 w1 → W.grownBy w1 (Value.slice A xs.length c).ownBlock → wpList P ops Q rest a w1) : wpList P ops Q (o :: rest) a W := by
  obtain ⟨A', c', cap, hv, hc, hR⟩ := HO
  injection hv with e1 _ e3
  subst e1 e3
  obtain ⟨g, cap', e4, e5, e6⟩ : ∃ g cap', A = some ⟨g, 0, none⟩ ∧ cap = cap' ∧ True := by
    obtain ⟨_, inner, ho, _⟩ := hR
    rcases ho.2 with ⟨_, h0⟩ | ⟨g, cap', cur, hv, _⟩
    · omega
    · injection hv with ha _ hcc
      exact ⟨g, cap', ha, hcc, trivial⟩
  subst e4 e5
  obtain ⟨c0, hcl, hMc, hcc⟩ := Kd.R_get hR z (i : Int) (by omega) (by omega)
  rw [Int.toNat_natCast] at hcc
  refine Kd.R_store d (w0 := w0) base hN hgd t p x ho e (i : Int) 0 xs x' u seg c0 (fun _ => True) (fun _ => False) (o' := i * d.sz) ?_ (by simp) hx hu ht h1 hR (by omega) (by omega) hcl (fun j u hu => ?_) (by omega) ?_ (fun _ hk => hk.elim) HB ?_
  · rw [haddr]
    simp only [Option.map_some]
    rw [add_plain]
  · have := hcc j u hu
    rw [add_plain] at this
    rw [Int.toNat_natCast]
    exact this
  · rw [List.take_zero, List.nil_append, Nat.zero_add, hj, List.drop_of_length_le (by omega), List.append_nil]
    exact hM
  · intro w1 hR1 hb1 hg1
    rw [Int.toNat_natCast] at hR1
    refine h w1 ⟨_, _, _, by rw [List.length_set], ?_, by rw [List.length_set]; exact hR1⟩ hb1 hg1
    rw [List.length_set]
    exact hc
end
/-- Three rows that share no block. -/
structure Three {α : Type} (d : Kd α) (e : Nat) (w0 w : World) (lv mv nv : Value) (L M N : List α) : Prop where
  rl : RC d e w w0.heap.size lv L
  rm : RC d e w w0.heap.size mv M
  rn : RC d e w w0.heap.size nv N
  lm : disj lv mv
  ln : disj lv nv
  mn : disj mv nv
  bel : Below w0.heap.size w0 w
section
variable {α : Type} {d : Kd α} {e : Nat} {w0 w w1 : World} {lv mv nv v1 : Value} {L M N X : List α}
theorem Three.putL (h : Three d e w0 w lv mv nv L M N) (hE : d.E = []) (hr : RC d e w1 w0.heap.size v1 X) (hb : Below w0.heap.size w0 w1) (hg : w.grownBy w1 lv.ownBlock) (hat : v1.ownBlock = lv.ownBlock ∨ ∃ b, v1.ownBlock = some b ∧ w.heap.size ≤ b) : Three d e w0 w1 v1 mv nv X M N := by
  refine ⟨hr, h.rm.grown hE hg (fun k hk => h.lm k hk), h.rn.grown hE hg (fun k hk => h.ln k hk), ?_, ?_, h.mn, hb⟩
  · rcases hat with hat | ⟨b, hb1, hb2⟩
    · intro k hk; exact h.lm k (hat ▸ hk)
    · exact h.rm.disj_new hb1 hb2
  · rcases hat with hat | ⟨b, hb1, hb2⟩
    · intro k hk; exact h.ln k (hat ▸ hk)
    · exact h.rn.disj_new hb1 hb2
theorem Three.putM (h : Three d e w0 w lv mv nv L M N) (hE : d.E = []) (hr : RC d e w1 w0.heap.size v1 X) (hb : Below w0.heap.size w0 w1) (hg : w.grownBy w1 mv.ownBlock) (hat : v1.ownBlock = mv.ownBlock ∨ ∃ b, v1.ownBlock = some b ∧ w.heap.size ≤ b) : Three d e w0 w1 lv v1 nv L X N := by
  refine ⟨h.rl.grown hE hg (fun k hk => h.lm.symm k hk), hr, h.rn.grown hE hg (fun k hk => h.mn k hk), ?_, h.ln, ?_, hb⟩
  · rcases hat with hat | ⟨b, hb1, hb2⟩
    · intro k hk e
      exact h.lm k hk (hat ▸ e)
    · exact (h.rl.disj_new hb1 hb2).symm
  · rcases hat with hat | ⟨b, hb1, hb2⟩
    · intro k hk; exact h.mn k (hat ▸ hk)
    · exact h.rn.disj_new hb1 hb2
theorem Three.below (h : Three d e w0 w lv mv nv L M N) (hb : Below w.heap.size w w1) : Three d e w0 w1 lv mv nv L M N := ⟨h.rl.below hb, h.rm.below hb, h.rn.below hb, h.lm, h.ln, h.mn, below_next h.bel hb⟩
end
theorem set_fill {α : Type} (x : α) (l : List α) (j : Nat) (h : j < l.length) : (List.replicate j x ++ l.drop j).set j x = List.replicate (j + 1) x ++ l.drop (j + 1) := by
  rw [List.set_append_right _ _ (by simp), List.length_replicate, Nat.sub_self, List.drop_eq_getElem_cons h, List.set_cons_zero, List.replicate_succ']
  simp
/-- xs[m:], whatever its room. -/
theorem cut_drop {P : Program} {α : Type} (d : Kd α) (t e : TypeId) {i : TypeInfo} (ht : P.underlying t = some (.slice e)) (hi : P.info? e = some i) (hsz : i.size = d.sz) (A : Option Addr) (c : Nat) (xs : List α) (j : Int) (m : Nat) (hj : j = m) (hm : m ≤ xs.length) (hc : xs.length ≤ c) :
    ∃ A', (∀ W : World, (Instr.slice t (.slice A xs.length c) (some (.int .i64 j)) none none).run P W = .ok (.slice A' (xs.drop m).length (c - m)) W) ∧ ∀ w, d.C w A xs.length xs → d.C w A' (xs.drop m).length (xs.drop m) := by
  subst hj
  refine ⟨if c = m then A else A.map (·.add (m * d.sz)), fun W => ?_, fun w h => Kd.C_drop h hm hc⟩
  have h := cut_from t e .i64 ht hi d.sz hsz A xs.length c (m : Int) (by omega) (by omega) W
  rw [Int.toNat_natCast] at h
  rw [h, List.length_drop]
/-- Two rows, of kinds of their own, that share no block. -/
structure TwoR {α β : Type} (d : Kd α) (e : Nat) (d' : Kd β) (e' : Nat) (w0 w : World) (u v : Value) (X : List α) (Y : List β) : Prop where
  a : d.R e w w0.heap.size (fun _ => True) u X
  b : d'.R e' w w0.heap.size (fun _ => True) v Y
  dj : disj u v
  bel : Below w0.heap.size w0 w
section
variable {α β : Type} {d : Kd α} {e : Nat} {d' : Kd β} {e' : Nat} {w0 w w1 : World} {u v u1 v1 : Value} {X X1 : List α} {Y Y1 : List β}
theorem TwoR.putA (h : TwoR d e d' e' w0 w u v X Y) (hE : d'.E = []) (hr : d.R e w1 w0.heap.size (fun _ => True) u1 X1) (hb : Below w0.heap.size w0 w1) (hg : w.grownBy w1 u.ownBlock) (hat : u1.ownBlock = u.ownBlock ∨ ∃ b, u1.ownBlock = some b ∧ w.heap.size ≤ b) : TwoR d e d' e' w0 w1 u1 v X1 Y := by
  refine ⟨hr, Kd.R_grown2 h.b hE hg (fun k hk e => h.dj k hk e.symm), ?_, hb⟩
  rcases hat with hat | ⟨b, hb1, hb2⟩
  · intro k hk; exact h.dj k (hat ▸ hk)
  · exact (RC.of_R h.b).disj_new hb1 hb2
theorem TwoR.putB (h : TwoR d e d' e' w0 w u v X Y) (hE : d.E = []) (hr : d'.R e' w1 w0.heap.size (fun _ => True) v1 Y1) (hb : Below w0.heap.size w0 w1) (hg : w.grownBy w1 v.ownBlock) (hat : v1.ownBlock = v.ownBlock ∨ ∃ b, v1.ownBlock = some b ∧ w.heap.size ≤ b) : TwoR d e d' e' w0 w1 u v1 X Y1 := by
  refine ⟨Kd.R_grown2 h.a hE hg (fun k hk e => h.dj.symm k hk e.symm), hr, ?_, hb⟩
  rcases hat with hat | ⟨b, hb1, hb2⟩
  · intro k hk e; exact h.dj k hk (hat ▸ e)
  · exact ((RC.of_R h.a).disj_new hb1 hb2).symm
/-- The second row is made anew. -/
theorem TwoR.newB (h : TwoR d e d' e' w0 w u v X Y) (hr : d'.R e' w1 w.heap.size (fun _ => True) v1 Y1) (hb : Below w.heap.size w w1) : TwoR d e d' e' w0 w1 u v1 X Y1 :=
  ⟨Kd.R_below h.a hb, Kd.R_lower hr h.bel.size, ((RC.of_R h.a).disj_later (RC.of_R hr)).symm, below_next h.bel hb⟩
theorem TwoR.below (h : TwoR d e d' e' w0 w u v X Y) (hb : Below w.heap.size w w1) : TwoR d e d' e' w0 w1 u v X Y := ⟨Kd.R_below h.a hb, Kd.R_below h.b hb, h.dj, below_next h.bel hb⟩
end
end Go.Proofs.YtcikcnkhcfhomaaDoor.Hand
/- Contracts: plan.Cut and the document's, by what they answer; the errors of a row that lists other variables too. -/
namespace Go.Proofs.YtcikcnkhcfhomaaDoor.Hand
open Go.ChangeShapes
open Go.RowKit Go.Proofs.YtcikcnkhcfhomaaDoorW.PrintWords Go.Proofs.YtcikcnkhcfhomaaDoorW.PrintMore Go.Proofs.YtcikcnkhcfhomaaDoor.Math

theorem laid_errsF (p : String × DataW Unit → Bool) {l : List (String × DataW Unit)} {W : World} (h : laidMetH Tryd.prog l W) (hp : (l.all fun x => x.2.handleName?.isNone) = true)
    (hp2 : ((l.filter p).all fun x => x.2.handleName?.isNone) = true)
    (hall : ((l.filter p).all fun x => sentB x.2 && (((Tryd.prog.globalNamed x.1).bind fun g => (Tryd.prog.globals[g]?).map (·.type)) == some 25)) = true)
    (hn : (l.filter p).map (fun x => Tryd.prog.globalNamed x.1) = GE.map some) : ∃ A, Errs W A := by
  rw [MakeChecks.laidMetH_plain _ _ _ hp] at h
  exact laid_errs' (l := l.filter p) (by rw [MakeChecks.laidMetH_plain _ _ _ hp2]; exact h.filter p) hp2 hall hn
/-- The pieces, or none. -/
def cutR (n : Int) (l : List Int) : List (Int × Int) := if cutE n l = 0 then cutL n 0 l else []
theorem cutR_len (n : Int) (l : List Int) : (cutR n l).length ≤ 65537 := by
  unfold cutR
  split
  · rename_i h
    rw [cutL_length]
    unfold cutE at h
    split at h
    · cases h
    · omega
  · simp
theorem cutX_calls (n : Int) (A : Option Addr) (c : Nat) (l : List Int) (w : World) (Ae : Nat → Addr) (hE : ErrsL [0, 7] w Ae) (hr : Kd.C (Kd.int .i64) w A l.length l) (hl : l.length ≤ 17592186044415) :
    Calls Tryd.prog 21 #[.int .i64 n, .slice A l.length c] w fun e w' => ∃ v ev, e = .returned (.tuple #[v, ev]) ∧ RC K2 44 w' w.heap.size v (cutR n l) ∧ ErrV w' Ae ev (cutE n l) (-1) ∧ Below w.heap.size w w' := by
  refine (cut_calls n A c l w Ae hE hr hl).mono ?_
  rintro e w' ⟨hb, ⟨k, hk, rfl⟩ | ⟨h0, B, d, rfl, hR⟩⟩
  · refine ⟨_, _, rfl, ?_, ?_, hb⟩
    · unfold cutR; rw [if_neg (by omega)]; exact RC.nil
    · rw [hk]
      refine .sent k ?_
      unfold cutE at hk
      split at hk
      · omega
      · split at hk <;> omega
  · refine ⟨_, _, rfl, ?_, ?_, hb⟩
    · unfold cutR; rw [if_pos h0]; exact RC.cut hR
    · rw [h0]; exact .none
set_option maxHeartbeats 2000000 in
set_option maxRecDepth 20000 in
theorem refCut_calls (n : Int) (A : Option Addr) (c : Nat) (l : List Int) (w : World) (hr : Kd.C (Kd.int .i64) w A l.length l) :
    Calls Tryd.prog 22 #[.int .i64 n, .slice A l.length c] w fun e w' => ∃ v, e = .returned (.tuple #[v, .int .i64 (cutE n l : Nat)]) ∧ RC K2 44 w' w.heap.size v (cutR n l) ∧ Below w.heap.size w w' := by
  have HR := Lib.hid hr
  have hlen := hr.2.1
  clear hr
  have no : Hid (∀ k, cutE n l = k + 1 → ∀ W, RC K2 44 W w.heap.size (.slice none 0 0) (cutR n l)) := Lib.hid (fun k hk W => by unfold cutR; rw [if_neg (by omega)]; exact RC.nil)
  by_cases h1 : n < 0 ∨ 65536 < n ∨ 65536 < l.length
  · have HO : Hid (cutE n l = 0 + 1) := Lib.hid (by unfold cutE; rw [if_pos h1])
    have hcase : (n < 0) ∨ (¬ n < 0 ∧ 65536 < n) ∨ (¬ n < 0 ∧ ¬ 65536 < n ∧ (65536 : Int) < (l.length : Int)) := by omega
    clear h1
    rcases hcase with h2 | ⟨h2, h3⟩ | ⟨h2, h3, h4⟩
    all_goals
      go_enter Tryd.func22, Tryd.ntmps22
      go_wp2
      go_ret2
      exact ⟨_, by rw [HO.out]; rfl, no.out 0 HO.out _, Below.refl _ _⟩
  · have h2 : ¬ n < 0 := by omega
    have h3 : ¬ 65536 < n := by omega
    have h4 : ¬ (65536 : Int) < (l.length : Int) := by omega
    have hl4 : l.length ≤ 65536 := by omega
    have HV : Hid (cutE n l = if cutOk n 0 l then 0 else 8) := Lib.hid (by unfold cutE; rw [if_neg h1])
    have HJ : Hid (CSt w w n l 0 (.slice none 0 0) 0 []) := Lib.hid ⟨by simp, by simp, rfl, Kd.R_nil _ _ _ _ _, Below.refl _ _⟩
    clear h1
    go_enter Tryd.func22, Tryd.ntmps22
    go_wp2
    go_loopw [6, 7, 8] (fun uu f x wr => ∃ (j : Nat) (y : Int) (done : List (Int × Int)) (u : Value), f = .int .i64 y ∧ x = .int .i64 j ∧ j ≤ l.length ∧ u = uu ∧ Hid (CSt w wr n l j u y done)) (fun _ _ x _ => l.length - (intOf x).toNat)
    case atStart => exact ⟨0, 0, _, _, rfl, rfl, by omega, rfl, HJ⟩
    case round =>
      obtain ⟨j, f, done, u, rfl, rfl, hj, rfl, HS⟩ := hrel
      obtain ⟨wo, rfl⟩ : ∃ wo : World, wo = wr := ⟨_, rfl⟩
      by_cases hlt : j < l.length
      · obtain ⟨ad, t, rfl, hc, HY⟩ := at_nat (Kd.C_below HR.out HS.out.bel) j hlt
        have HD : Hid (l.drop j = t :: l.drop (j + 1)) := Lib.hid (by
          rw [List.drop_eq_getElem_cons hlt]
          congr 1
          have := HY.out
          rw [List.getD_eq_getElem?_getD, List.getElem?_eq_getElem hlt] at this
          simpa using this)
        by_cases ht0 : t < f
        · have HO : Hid (cutE n l = 7 + 1) := Lib.hid (by rw [HV.out, HS.out.ok, HD.out, cutOk]; simp; omega)
          go_wp2
          go_ret2
          exact ⟨_, by rw [HO.out]; rfl, no.out 7 HO.out _, HS.out.bel⟩
        · by_cases ht1 : n < t
          · have HO : Hid (cutE n l = 7 + 1) := Lib.hid (by rw [HV.out, HS.out.ok, HD.out, cutOk]; simp; omega)
            go_wp2
            go_ret2
            exact ⟨_, by rw [HO.out]; rfl, no.out 7 HO.out _, HS.out.bel⟩
          · go_wp2_with ((with_reducible refine gate_builtin (b := .append) (xs := #[.tmp 40, .tmp 47]) rfl ?_); at_builtin; go_loud (refine Kd.R_append K2 (w0 := w) w.heap.size rfl (.tmp 40) (.tmp 47) 37 44 (.agg #[.int .i64 0, .int .i64 0]) 16 rfl Tryd.underlying37 info2i rfl (by decide) (by omega) u done (f, t) [.int .i64 f, .int .i64 t] (fun _ => True) (fun _ => False) rfl rfl ⟨[.int .i64 f], [.int .i64 t], rfl, rfl, rfl⟩ (fun _ hk => hk.elim) (fun _ _ => trivial) HS.out.own HS.out.bel HS.out.bel.size (by have := HS.out.dl; omega) ?_); intro v1 w6 ho hb hg hat; (have H6 := Lib.hid (CSt.next HS.out HD.out ht0 ht1 ho hb); have hc2 : w6.cell? (ad.add j) = some (.int .i64 t) := (by obtain ⟨ad', t', ea, h7, HY2⟩ := at_nat (Kd.C_below HR.out hb) j hlt; have e1 := Option.some.inj ea; have e2 := HY2.out.symm.trans HY.out; rw [e1, ← e2]; exact h7); clear ho hb hg hat))
            go_roundw
            case rel => exact ⟨j + 1, t, _, _, rfl, by go_num, by omega, rfl, H6⟩
            case measure => simp [intOf]; omega
      · obtain rfl : j = l.length := by omega
        have hd : l.drop l.length = [] := List.drop_of_length_le (by omega)
        have HO : Hid (cutE n l = 0) := Lib.hid (by rw [HV.out, HS.out.ok, hd, cutOk]; rfl)
        have HQ : Hid (cutL n 0 l = done ++ [(f, n)]) := Lib.hid (by rw [HS.out.eq, hd, cutL])
        go_wp2_with ((with_reducible refine gate_builtin (b := .append) (xs := #[.tmp 53, .tmp 57]) rfl ?_); at_builtin; go_loud (refine Kd.R_append K2 (w0 := w) w.heap.size rfl (.tmp 53) (.tmp 57) 37 44 (.agg #[.int .i64 0, .int .i64 0]) 16 rfl Tryd.underlying37 info2i rfl (by decide) (by omega) u done (f, n) [.int .i64 f, .int .i64 n] (fun _ => True) (fun _ => False) rfl rfl ⟨[.int .i64 f], [.int .i64 n], rfl, rfl, rfl⟩ (fun _ hk => hk.elim) (fun _ _ => trivial) HS.out.own HS.out.bel HS.out.bel.size (by have := HS.out.dl; omega) ?_); intro v1 w6 ho hb hg hat; (rw [← HQ.out] at ho; have HB6 := Lib.hid hb; have HO6 := Lib.hid ho; clear ho hb hg hat))
        go_ret2
        exact ⟨_, by rw [HO.out]; rfl, by unfold cutR; rw [if_pos HO.out]; exact RC.of_R HO6.out, HB6.out⟩
end Go.Proofs.YtcikcnkhcfhomaaDoor.Hand
/- Contracts: the document's May and Joins. -/
namespace Go.Proofs.YtcikcnkhcfhomaaDoor.Hand
open Go.RowKit Go.Proofs.YtcikcnkhcfhomaaDoorW.PrintWords Go.Proofs.YtcikcnkhcfhomaaDoorW.PrintMore Go.Proofs.YtcikcnkhcfhomaaDoor.Math

/-- The document's row: where each part begins and ends. -/
def rowOf (m : Nat) (S : List Nat) : List (Int × Int) := (List.range S.length).map (fun j => ((S.getD j 0 : Nat), (S.getD (j + 1) m : Nat)))
theorem rowOf_len (m : Nat) (S : List Nat) : (rowOf m S).length = S.length := by simp [rowOf]
theorem rowOf_get {m : Nat} {S : List Nat} {j : Nat} (h : j < S.length) : (rowOf m S)[j]? = some (((S.getD j 0 : Nat) : Int), ((S.getD (j + 1) m : Nat) : Int)) := by
  unfold rowOf
  rw [List.getElem?_map, List.getElem?_range h]; rfl
theorem rowOf_range (m : Nat) : rowOf m (List.range m) = (List.range m).map (fun i : Nat => ((i : Int), (i : Int) + 1)) := by
  unfold rowOf
  rw [List.length_range]
  apply List.map_congr_left
  intro j hj
  have hj' : j < m := by simpa using hj
  rw [getD_at (by simpa using hj'), List.getElem_range]
  rcases Nat.lt_or_ge (j + 1) m with h1 | h1
  · rw [getD_at (by simpa using h1), List.getElem_range]; rfl
  · rw [getD_none (by simpa using h1), show m = j + 1 by omega]; rfl
theorem rowOf_join {m : Nat} {S : List Nat} {k : Nat} (h : k + 1 < S.length) : rowOf m (S.eraseIdx (k + 1)) = ((rowOf m S).take k ++ [(((S.getD k 0 : Nat) : Int), ((S.getD (k + 2) m : Nat) : Int))]) ++ (rowOf m S).drop (k + 2) := by
  have hl : (S.eraseIdx (k + 1)).length = S.length - 1 := by rw [List.length_eraseIdx, if_pos h]
  apply List.ext_getElem?
  intro j
  rcases Nat.lt_or_ge j (S.length - 1) with hj | hj
  · rw [rowOf_get (by omega), getD_erase, getD_erase]
    rcases Nat.lt_trichotomy j k with h1 | h1 | h1
    · rw [if_pos (by omega), if_pos (by omega), List.append_assoc, List.getElem?_append_left (by simp [rowOf_len]; omega), List.getElem?_take, if_pos h1, rowOf_get (by omega)]
    · subst h1
      rw [if_pos (by omega), if_neg (by omega), List.append_assoc, List.getElem?_append_right (by simp [rowOf_len]; omega)]
      simp [rowOf_len, show min j S.length = j by omega]
    · rw [if_neg (by omega), if_neg (by omega), List.getElem?_append_right (by simp [rowOf_len]; omega), List.getElem?_drop]
      have e : k + 2 + (j - ((rowOf m S).take k ++ [(((S.getD k 0 : Nat) : Int), ((S.getD (k + 2) m : Nat) : Int))]).length) = j + 1 := by
        simp [rowOf_len]; omega
      rw [e, rowOf_get (by omega)]
  · rw [List.getElem?_eq_none (by rw [rowOf_len, hl]; exact hj), List.getElem?_eq_none (by simp [rowOf_len]; omega)]
theorem ordE_lt (m : Int) (o : List Int) : ordE m o < 16 := by unfold ordE; split <;> (try split) <;> (try split) <;> omega
set_option maxHeartbeats 1000000 in
theorem may_calls (m : Int) (A : Option Addr) (c : Nat) (o : List Int) (w : World) (hr : Kd.C (Kd.int .i64) w A o.length o) (hm : -9223372036854775808 ≤ m ∧ m ≤ 9223372036854775807) :
    Calls Tryd.prog 43 #[.int .i64 m, .slice A o.length c] w fun e w' => e = .returned (.int .i64 (ordE m o : Nat)) ∧ w = w' := by
  have HR := Lib.hid hr
  have hlen := hr.2.1
  clear hr
  by_cases h1 : m < 1 ∨ 65537 < m
  · have HO : Hid (ordE m o = 1) := Lib.hid (by unfold ordE; rw [if_pos h1])
    have hcase : (m < 1) ∨ (¬ m < 1 ∧ 65537 < m) := by omega
    clear h1
    rcases hcase with h2 | ⟨h2, h3⟩
    all_goals
      go_enter Tryd.func43, Tryd.ntmps43
      go_wp2
      go_ret
      exact ⟨ret_int (by rw [HO.out]; rfl), rfl⟩
  · by_cases h2 : (o.length : Int) = m - 1
    · have h3 : ¬ m < 1 := by omega
      have h4 : ¬ 65537 < m := by omega
      obtain ⟨M, rfl⟩ : ∃ M : Nat, m = (M : Int) := ⟨m.toNat, by omega⟩
      have h5 : ((o.length : Int) != (M : Int) - 1) = false := by simpa using h2
      have h6 : ((o.length : Int) == (M : Int) - 1) = true := by simpa using h2
      have HV : Hid ((∀ j, j < o.length → 0 ≤ o.getD j 0 ∧ o.getD j 0 ≤ (M : Int) - 2 - (j : Int)) → ordE M o = 0) := Lib.hid (fun h => by unfold ordE; rw [if_neg h1, if_neg (fun h => h h2), if_pos h])
      have HN : Hid (∀ j, j < o.length → ¬ (0 ≤ o.getD j 0 ∧ o.getD j 0 ≤ (M : Int) - 2 - (j : Int)) → ordE M o = 9) := Lib.hid (fun j hj h => by unfold ordE; rw [if_neg h1, if_neg (fun h => h h2), if_neg (fun h' => h (h' j hj))])
      clear h1 h2
      go_enter Tryd.func43, Tryd.ntmps43
      go_wp2
      go_loopw [5] (fun x wr => ∃ (j : Nat), x = .int .i64 j ∧ j ≤ o.length ∧ Hid (∀ i, i < j → 0 ≤ o.getD i 0 ∧ o.getD i 0 ≤ (M : Int) - 2 - (i : Int)) ∧ wr = w) (fun x _ => o.length - (intOf x).toNat)
      case atStart => exact ⟨0, rfl, by omega, Lib.hid (fun i h => by omega), by first | rfl | trivial⟩
      case round =>
        obtain ⟨j, rfl, hj, HP, rfl⟩ := hrel
        by_cases hlt : j < o.length
        · obtain ⟨ad, y, rfl, hc, HY⟩ := at_nat HR.out j hlt
          by_cases hy0 : y < 0
          · have HO : Hid (ordE M o = 9) := Lib.hid (HN.out j hlt (by rw [HY.out]; omega))
            go_wp2
            go_ret
            exact ⟨ret_int (by rw [HO.out]; rfl), rfl⟩
          · by_cases hy1 : (M : Int) - 2 - (j : Int) < y
            · have HO : Hid (ordE M o = 9) := Lib.hid (HN.out j hlt (by rw [HY.out]; omega))
              go_wp2
              go_ret
              exact ⟨ret_int (by rw [HO.out]; rfl), rfl⟩
            · go_wp2
              go_roundw
              case rel => exact ⟨j + 1, by go_num, by omega, Lib.hid (fun i hi => by
                rcases Nat.lt_or_ge i j with h | h
                · exact HP.out i h
                · obtain rfl : i = j := by omega
                  rw [HY.out]; omega), by first | rfl | trivial⟩
              case measure => simp [intOf]; omega
        · obtain rfl : j = o.length := by omega
          have HO := Lib.hid (HV.out HP.out)
          go_wp2
          go_ret
          exact ⟨ret_int (by rw [HO.out]; rfl), rfl⟩
    · have HO : Hid (ordE m o = 9) := Lib.hid (by unfold ordE; rw [if_neg h1, if_pos h2])
      have h3 : ¬ m < 1 := by omega
      have h4 : ¬ 65537 < m := by omega
      have h5 : ((o.length : Int) != m - 1) = true := by simpa using h2
      have h6 : ((o.length : Int) == m - 1) = false := by simpa using h2
      clear h1
      go_enter Tryd.func43, Tryd.ntmps43
      go_wp2
      go_ret
      exact ⟨ret_int (by rw [HO.out]; rfl), rfl⟩
/-- The joins, or none. -/
def joinsR (m : Int) (o : List Int) : List (Int × Int × Int) := if ordE m o = 0 then (joinL m.toNat (List.range m.toNat) (o.map Int.toNat)).map tI else []
theorem row_two {w : World} {ad : Addr} {m : Nat} {S : List Nat} {k x0 x1 x2 : Nat} (hC : K2.C w (some ad) (rowOf m S).length (rowOf m S)) (hk : k + 1 < S.length) (h0 : S.getD k m = x0) (h1 : S.getD (k + 1) m = x1) (h2 : S.getD (k + 2) m = x2) :
    w.cell? (ad.add (k * 2)) = some (.int .i64 (x0 : Int)) ∧ w.cell? ⟨(ad.add (k * 2)).block, (ad.add (k * 2)).off + 1, none⟩ = some (.int .i64 (x1 : Int)) ∧ w.cell? (ad.add ((k + 1) * 2)) = some (.int .i64 (x1 : Int)) ∧ w.cell? ⟨(ad.add ((k + 1) * 2)).block, (ad.add ((k + 1) * 2)).off + 1, none⟩ = some (.int .i64 (x2 : Int)) := by
  have hg0 := rowOf_get (m := m) (S := S) (show k < S.length by omega)
  have hg1 := rowOf_get (m := m) (S := S) hk
  rw [getD_at (d := 0) (show k < S.length by omega), ← getD_at (d := m) (show k < S.length by omega), h0, h1] at hg0
  rw [getD_at (d := 0) hk, ← getD_at (d := m) hk, h1, show k + 1 + 1 = k + 2 from rfl, h2] at hg1
  obtain ⟨ad2, a0, b0, e2, p0, p1, HX0⟩ := at_K2 hC k (by rw [rowOf_len]; omega)
  obtain ⟨ad3, a1, b1, e3, p2, p3, HX1⟩ := at_K2 hC (k + 1) (by rw [rowOf_len]; omega)
  obtain rfl := Option.some.inj e2
  obtain rfl := Option.some.inj e3
  have q0 := HX0.out
  rw [List.getD_eq_getElem?_getD, hg0] at q0
  have q1 := HX1.out
  rw [List.getD_eq_getElem?_getD, hg1] at q1
  simp at q0 q1
  rw [← q0.1] at p0
  rw [← q0.2] at p1
  rw [← q1.1] at p2
  rw [← q1.2] at p3
  exact ⟨p0, p1, p2, p3⟩
/-- The memory of the document's Joins. -/
structure RJ (w0 w : World) (M j : Nat) (on : List Nat) (lv rv : Value) (S : List Nat) (done : List (Nat × Nat × Nat)) : Prop where
  st : Starts M S
  len : S.length + j = M
  ord : OrdOk S.length (on.drop j)
  eq : joinL M (List.range M) on = done ++ joinL M S (on.drop j)
  dl : done.length = j
  two : TwoR K3 29 K2 44 w0 w lv rv (done.map tI) (rowOf M S)
theorem RJ.next {w0 w w1 : World} {M j k : Nat} {on : List Nat} {lv rv l1 r1 : Value} {S : List Nat} {done : List (Nat × Nat × Nat)} {x0 x1 x2 : Nat} (h : RJ w0 w M j on lv rv S done) (hd : on.drop j = k :: on.drop (j + 1)) (hk : k + 1 < S.length ∧ OrdOk (S.length - 1) (on.drop (j + 1)))
    (hx0 : S.getD k M = x0) (hx1 : S.getD (k + 1) M = x1) (hx2 : S.getD (k + 2) M = x2)
    (ht : TwoR K3 29 K2 44 w0 w1 l1 r1 (done.map tI ++ [((x0 : Int), (x1 : Int), (x2 : Int))]) (rowOf M (S.eraseIdx (k + 1)))) : RJ w0 w1 M (j + 1) on l1 r1 (S.eraseIdx (k + 1)) (done ++ [(x0, x1, x2)]) := by
  have hl : (S.eraseIdx (k + 1)).length = S.length - 1 := by rw [List.length_eraseIdx, if_pos hk.1]
  refine ⟨h.st.erase k, ?_, ?_, ?_, ?_, ?_⟩
  · have := h.len; omega
  · rw [hl]; exact hk.2
  · rw [h.eq, hd, joinL, List.append_assoc, getD_at (d := 0) (show k < S.length by omega), ← getD_at (d := M) (show k < S.length by omega), hx0, hx1, hx2]
    rfl
  · have := h.dl; simp; omega
  · rw [List.map_append]; exact ht
set_option maxHeartbeats 2000000 in
set_option maxRecDepth 20000 in
theorem refJoins_calls (m : Int) (A : Option Addr) (c : Nat) (o : List Int) (w : World) (hr : Kd.C (Kd.int .i64) w A o.length o) (hm : -9223372036854775808 ≤ m ∧ m ≤ 9223372036854775807) :
    Calls Tryd.prog 26 #[.int .i64 m, .slice A o.length c] w fun e w' => ∃ v, e = .returned (.tuple #[v, .int .i64 (ordE m o : Nat)]) ∧ RC K3 29 w' w.heap.size v (joinsR m o) ∧ Below w.heap.size w w' := by
  have HR := Lib.hid hr
  have HMay := Lib.hid (may_calls m A c o w hr hm)
  obtain ⟨K, hK⟩ : ∃ K, ordE m o = K := ⟨_, rfl⟩
  rw [hK] at HMay
  clear hr
  by_cases h0 : K = 0
  · obtain ⟨hm1, hol, hov, hok⟩ := ordE_ok (hK.trans h0)
    obtain ⟨M, rfl⟩ : ∃ M : Nat, m = (M : Int) := ⟨m.toNat, by omega⟩
    rw [Int.toNat_natCast] at hok
    have HQ : Hid (joinsR (M : Int) o = (joinL M (List.range M) (o.map Int.toNat)).map tI) := Lib.hid (by unfold joinsR; rw [if_pos (hK.trans h0), Int.toNat_natCast])
    have HOv := Lib.hid hov
    have HOk := Lib.hid hok
    have HK := Lib.hid hK
    have hM : M ≤ 65537 := by omega
    have hoM : o.length + 1 = M := by omega
    subst h0
    clear hK hov hok hol
    go_enter Tryd.func26, Tryd.ntmps26
    go_upto_region 4 with (go_at_call 43; refine HMay.out.mono ?_; rintro e w' ⟨rfl, rfl⟩)
    go_wp2
    go_loopw [7, 8] (fun uu x wr => ∃ (j : Nat) (u : Value), x = .int .i64 j ∧ j ≤ M ∧ u = uu ∧ Hid (K2.R 44 wr w.heap.size (fun _ => True) u ((List.range j).map (fun i : Nat => ((i : Int), (i : Int) + 1))) ∧ Below w.heap.size w wr)) (fun _ x _ => M - (intOf x).toNat)
    case atStart => exact ⟨0, _, rfl, by omega, rfl, Lib.hid ⟨Kd.R_nil _ _ _ _ _, Below.refl _ _⟩⟩
    case round =>
      obtain ⟨j, u, rfl, hj, rfl, HS⟩ := hrel
      by_cases hlt : j < M
      · go_wp2_with ((with_reducible refine gate_builtin (b := .append) (xs := #[.tmp 24, .tmp 29]) rfl ?_); at_builtin; go_loud (refine Kd.R_append K2 (w0 := w) w.heap.size rfl (.tmp 24) (.tmp 29) 37 44 (.agg #[.int .i64 0, .int .i64 0]) 16 rfl Tryd.underlying37 info2i rfl (by decide) (by omega) u ((List.range j).map (fun i : Nat => ((i : Int), (i : Int) + 1))) ((j : Int), (j : Int) + 1) [.int .i64 (j : Int), .int .i64 ((j : Int) + 1)] (fun _ => True) (fun _ => False) rfl rfl ⟨[.int .i64 (j : Int)], [.int .i64 ((j : Int) + 1)], rfl, rfl, rfl⟩ (fun _ hk => hk.elim) (fun _ _ => trivial) HS.out.1 HS.out.2 HS.out.2.size (by simp; omega) ?_); intro v1 w1 ho hb hg hat; (have H1 : Hid (K2.R 44 w1 w.heap.size (fun _ => True) v1 ((List.range (j + 1)).map (fun i : Nat => ((i : Int), (i : Int) + 1))) ∧ Below w.heap.size w w1) := Lib.hid ⟨by rw [List.range_succ, List.map_append]; exact ho, hb⟩; clear ho hb hg hat))
        go_roundw
        case rel => exact ⟨j + 1, _, by go_num, by omega, rfl, H1⟩
        case measure => simp [intOf]; omega
      · obtain rfl : j = M := by omega
        have HJ : Hid (RJ w wr j 0 (o.map Int.toNat) (.slice none 0 0) u (List.range j) []) := Lib.hid
          ⟨Starts.range j, by simp, by rw [List.length_range]; exact HOk.out, by simp, rfl, ⟨Kd.R_nil _ _ _ _ _, by rw [rowOf_range]; exact HS.out.1, (disj_nil _).symm, HS.out.2⟩⟩
        have hoL : o.length ≤ 65536 := by omega
        clear HS
        obtain ⟨wo, rfl⟩ : ∃ wo : World, wo = wr := ⟨_, rfl⟩
        go_wp2
        go_loopw [7, 9, 10] (fun rr ll x wr => ∃ (q : Nat) (S : List Nat) (done : List (Nat × Nat × Nat)) (r l : Value), x = .int .i64 q ∧ q ≤ o.length ∧ r = rr ∧ l = ll ∧ Hid (RJ w wr j q (o.map Int.toNat) l r S done)) (fun _ _ x _ => o.length - (intOf x).toNat)
        case atStart => exact ⟨0, _, _, _, _, rfl, by omega, rfl, rfl, HJ⟩
        case round =>
          obtain ⟨q, S, done, r, l, rfl, hq, rfl, rfl, HS⟩ := hrel
          by_cases hlt : q < o.length
          · obtain ⟨ad, y, rfl, hc, HY⟩ := at_nat (Kd.C_below HR.out HS.out.two.bel) q hlt
            have hyv := HOv.out q hlt
            rw [HY.out] at hyv
            obtain ⟨k, rfl⟩ : ∃ k : Nat, y = (k : Int) := ⟨y.toNat, by omega⟩
            have hdrop : (o.map Int.toNat).drop q = k :: (o.map Int.toNat).drop (q + 1) := by
              rw [List.drop_eq_getElem_cons (by simpa using hlt)]
              congr 1
              have := HY.out
              rw [List.getD_eq_getElem?_getD, List.getElem?_eq_getElem hlt] at this
              simp at this ⊢
              omega
            have HD := Lib.hid hdrop
            have hho := HS.out.ord
            rw [hdrop] at hho
            have HK2 := Lib.hid hho.head
            have hk1 : k + 1 < S.length := hho.head.1
            have hSj : S.length ≤ 65537 := by have := HS.out.len; omega
            obtain ⟨x0, hx0⟩ : ∃ x, S.getD k j = x := ⟨_, rfl⟩
            obtain ⟨x1, hx1⟩ : ∃ x, S.getD (k + 1) j = x := ⟨_, rfl⟩
            obtain ⟨x2, hx2⟩ : ∃ x, S.getD (k + 2) j = x := ⟨_, rfl⟩
            obtain ⟨A2, c2, rfl, hc2, hC2⟩ := (RC.of_R HS.out.two.b).form (rowOf_len j S)
            obtain ⟨ad2, rfl, -⟩ := hC2.2.2 (by rw [rowOf_len]; omega)
            have HRd : Hid (∀ W, K2.C W (some ad2) (rowOf j S).length (rowOf j S) → W.cell? (ad2.add (k * 2)) = some (.int .i64 (x0 : Int)) ∧ W.cell? ⟨(ad2.add (k * 2)).block, (ad2.add (k * 2)).off + 1, none⟩ = some (.int .i64 (x1 : Int)) ∧ W.cell? (ad2.add ((k + 1) * 2)) = some (.int .i64 (x1 : Int)) ∧ W.cell? ⟨(ad2.add ((k + 1) * 2)).block, (ad2.add ((k + 1) * 2)).off + 1, none⟩ = some (.int .i64 (x2 : Int))) := Lib.hid (fun W h => row_two h hk1 hx0 hx1 hx2)
            have HX0' := Lib.hid hx0
            have HX1' := Lib.hid hx1
            have HX2' := Lib.hid hx2
            have hk1I : (k : Int) + 1 < (S.length : Int) := by omega
            have hk0I : (k : Int) < (S.length : Int) := by omega
            clear hdrop hho hyv hx0 hx1 hx2 hC2
            obtain ⟨wi, rfl⟩ : ∃ wo : World, wo = wr := ⟨_, rfl⟩
            have hT0 : TwoR K3 29 K2 44 w wi.drew l (.slice (some ad2) S.length c2) (done.map tI) (rowOf j S) := HS.out.two.below (below_drew (Below.refl _ _))
            have hcc := (RC.of_R hT0.b)
            rw [← rowOf_len j S] at hcc
            have C0 := Lib.hid (HRd.out _ hcc.C)
            have C1 := Lib.hid (HRd.out _ (Kd.C_alloc hcc.C (.cells #[.int .i64 (x0 : Int), .int .i64 (x1 : Int), .int .i64 (x2 : Int)] 29)))
            have HT0 := Lib.hid hT0
            have hs1 : IntKind.i64.wrap ((k : Int) + 1) = (k : Int) + 1 := IntWalk.i64_in _ (by omega)
            have hs2 : (0 : Int) ≤ (k : Int) + 1 := by omega
            have hs3 : ((k : Int) + 1).toNat = k + 1 := by omega
            clear hT0 hcc
            go_upto_region 14 with (fail)
            go_region_held3 (fun w' => w'.cell? (ad2.add (k * 2)) = some (.int .i64 (x0 : Int)) ∧ w'.cell? ⟨(ad2.add (k * 2)).block, (ad2.add (k * 2)).off + 1, none⟩ = some (.int .i64 (x1 : Int)) ∧ w'.cell? (ad2.add ((k + 1) * 2)) = some (.int .i64 (x1 : Int)) ∧ w'.cell? ⟨(ad2.add ((k + 1) * 2)).block, (ad2.add ((k + 1) * 2)).off + 1, none⟩ = some (.int .i64 (x2 : Int)))
              (first
                | exact C2.out
                | exact C1.out
                | exact C0.out)
              ((refine Kd.R_append_step K3 (w0 := w) (W := wi.drew) w.heap.size (by rfl) (.tmp 41) (.tmp 60) 23 29 (.agg #[.int .i64 0, .int .i64 0, .int .i64 0]) 24 rfl Tryd.underlying23 info3i rfl (by decide) (by omega) l (done.map tI) ((x0 : Int), (x1 : Int), (x2 : Int)) [.int .i64 (x0 : Int), .int .i64 (x1 : Int), .int .i64 (x2 : Int)] (fun _ => True) (fun _ => False) rfl rfl ⟨[.int .i64 (x0 : Int)], [.int .i64 (x1 : Int), .int .i64 (x2 : Int)], rfl, rfl, [.int .i64 (x1 : Int)], [.int .i64 (x2 : Int)], rfl, rfl, rfl⟩ (fun _ hk => hk.elim) (fun _ _ => trivial) HT0.out.a HT0.out.bel HT0.out.bel.size (by have := HS.out.dl; simp; omega) ?_; intro l1 w5 ho hb hg hat; have HT5 := Lib.hid (HT0.out.putA rfl ho hb hg hat); have hcc := (RC.of_R HT5.out.b); rw [← rowOf_len j S] at hcc; have C2 := Lib.hid (HRd.out _ hcc.C); have HC5 := Lib.hid hcc.C; clear ho hb hg hat hcc))
            clear hs1 hs2 hs3
            have HTk : Hid (K2.C w5 (some ad2) k ((rowOf j S).take k)) := Lib.hid (by
              have := Kd.C_take (m := k) HC5.out (by rw [rowOf_len]; omega)
              rwa [List.length_take, rowOf_len, Nat.min_eq_left (by omega)] at this)
            have HTl : Hid (((rowOf j S).take k).length = k) := Lib.hid (by rw [List.length_take, rowOf_len]; omega)
            go_upto_region 17 with ((with_reducible refine gate_builtin (b := .append) (xs := #[.tmp 62, .tmp 65]) rfl ?_); at_builtin; go_loud (refine Kd.R_append_rows K2 (w0 := w5) w5.heap.size rfl (.tmp 62) (.tmp 65) 37 44 (.agg #[.int .i64 0, .int .i64 0]) 16 rfl Tryd.underlying37 info2i rfl (by decide) (by omega) (.slice none 0 0) ([] : List (Int × Int)) ((rowOf j S).take k) _ _ _ (fun _ => True) (fun _ => False) rfl rfl (Kd.R_nil _ _ _ _ _) HTk.out (fun _ _ h => h) (fun _ h => h.elim) (fun _ _ => trivial) (Below.refl _ _) (Nat.le_refl _) (by simp; omega) ?_); intro v6 w6 ho hb _ _; rw [List.nil_append] at ho; have HO6 := Lib.hid ho; have HB6 := Lib.hid hb; clear ho hb)
            have hC6 := Kd.C_below HC5.out HB6.out
            have D0 := Lib.hid (HRd.out _ (Kd.C_drew hC6))
            have D1 := Lib.hid (HRd.out _ (Kd.C_alloc (Kd.C_drew hC6) (.cells #[.int .i64 (x0 : Int), .int .i64 (x2 : Int)] 44)))
            have HC6 := Lib.hid hC6
            have HO6' := Lib.hid (Kd.R_drew HO6.out)
            have HB6' := Lib.hid (below_drew HB6.out)
            have HS6 : Hid (w5.heap.size ≤ w6.drew.heap.size) := Lib.hid HB6'.out.size
            have hs1 : IntKind.i64.wrap ((k : Int) + 1) = (k : Int) + 1 := IntWalk.i64_in _ (by omega)
            have hs2 : (0 : Int) ≤ (k : Int) + 1 := by omega
            have hs3 : ((k : Int) + 1).toNat = k + 1 := by omega
            clear hC6
            go_region_held3 (fun w' => w'.cell? (ad2.add (k * 2)) = some (.int .i64 (x0 : Int)) ∧ w'.cell? ⟨(ad2.add (k * 2)).block, (ad2.add (k * 2)).off + 1, none⟩ = some (.int .i64 (x1 : Int)) ∧ w'.cell? (ad2.add ((k + 1) * 2)) = some (.int .i64 (x1 : Int)) ∧ w'.cell? ⟨(ad2.add ((k + 1) * 2)).block, (ad2.add ((k + 1) * 2)).off + 1, none⟩ = some (.int .i64 (x2 : Int)))
              (first
                | exact D2.out
                | exact D1.out
                | exact D0.out)
              ((refine Kd.R_append_step K2 (w0 := w5) (W := w6.drew) w5.heap.size (by rfl) (.tmp 67) (.tmp 80) 37 44 (.agg #[.int .i64 0, .int .i64 0]) 16 rfl Tryd.underlying37 info2i rfl (by decide) (by omega) v6 ((rowOf j S).take k) ((x0 : Int), (x2 : Int)) [.int .i64 (x0 : Int), .int .i64 (x2 : Int)] (fun _ => True) (fun _ => False) rfl rfl ⟨[.int .i64 (x0 : Int)], [.int .i64 (x2 : Int)], rfl, rfl, rfl⟩ (fun _ hk => hk.elim) (fun _ _ => trivial) HO6'.out HB6'.out HS6.out (by have := HTl.out; omega) ?_; intro v7 w7 ho hb hg hat; have HO7 := Lib.hid ho; have HB7 := Lib.hid hb; have hC7 := Kd.C_below HC5.out hb; have D2 := Lib.hid (HRd.out _ hC7); have HC7 := Lib.hid hC7; clear ho hb hg hat hC7))
            clear hs1 hs2 hs3
            obtain ⟨ti, hti, hzz⟩ := Option.map_eq_some_iff.1 info2i
            have hsz2 : ti.size = K2.sz := by simp only [Prod.mk.injEq] at hzz; exact hzz.2.1
            obtain ⟨A8, hcut, hC8⟩ := cut_drop (P := Tryd.prog) K2 37 44 Tryd.underlying37 hti hsz2 (some ad2) c2 (rowOf j S) ((k : Int) + 2) (k + 2) (by omega) (by rw [rowOf_len]; omega) (by rw [rowOf_len]; omega)
            rw [rowOf_len] at hcut
            have hc8 := hC8 w7 HC7.out
            have hl8 : ((rowOf j S).drop (k + 2)).length ≤ 65537 := by rw [List.length_drop, rowOf_len]; omega
            obtain ⟨n8, hn8⟩ : ∃ n, ((rowOf j S).drop (k + 2)).length = n := ⟨_, rfl⟩
            rw [hn8] at hcut hl8
            obtain ⟨R8, hR8⟩ : ∃ R, (rowOf j S).drop (k + 2) = R := ⟨_, rfl⟩
            rw [hn8, hR8] at hc8
            have HC8 := Lib.hid hc8
            have HR8 := Lib.hid hR8
            clear hC8 hti hzz hsz2 hc8 hn8 hR8
            go_wp2_with ((with_reducible refine gate_builtin (b := .append) (xs := #[.tmp 82, .tmp 86]) rfl ?_); at_builtin; go_loud (refine Kd.R_append_rows K2 (w0 := w5) w5.heap.size rfl (.tmp 82) (.tmp 86) 37 44 (.agg #[.int .i64 0, .int .i64 0]) 16 rfl Tryd.underlying37 info2i rfl (by decide) (by omega) v7 ((rowOf j S).take k ++ [((x0 : Int), (x2 : Int))]) R8 _ _ _ (fun _ => True) (fun _ => False) rfl rfl HO7.out HC8.out (fun _ _ h => h) (fun _ h => h.elim) (fun _ _ => trivial) HB7.out HB7.out.size (by have := HTl.out; simp only [List.length_append, List.length_cons, List.length_nil]; omega) ?_); intro v9 w9 ho hb _ _; have HN9 : Hid (RJ w w9 j (q + 1) (o.map Int.toNat) l1 v9 (S.eraseIdx (k + 1)) (done ++ [(x0, x1, x2)])) := Lib.hid (HS.out.next HD.out HK2.out HX0'.out HX1'.out HX2'.out (HT5.out.newB (by rw [rowOf_join HK2.out.1, getD_at (d := 0) (by have := HK2.out.1; omega), ← getD_at (d := j) (by have := HK2.out.1; omega), HX0'.out, HX2'.out, HR8.out]; exact ho) hb)); clear ho hb)
            go_roundw
            case rel => exact ⟨q + 1, _, _, _, _, by go_num, by omega, rfl, rfl, HN9⟩
            case measure => simp [intOf]; omega
          · obtain rfl : q = o.length := by omega
            go_wp2
            go_ret2
            refine ⟨_, by rw [HK.out]; rfl, ?_, HS.out.two.bel⟩
            have e := HS.out.eq
            rw [List.drop_of_length_le (by simp), joinL, List.append_nil] at e
            rw [HQ.out, e]
            exact RC.of_R HS.out.two.a
  · have HQ : Hid (joinsR m o = []) := Lib.hid (by unfold joinsR; rw [if_neg (by omega)])
    have hK16 : K < 16 := by rw [← hK]; exact ordE_lt m o
    have HK := Lib.hid hK
    have hne : ((K : Int) != 0) = true := by simp; omega
    have hne2 : ((K : Int) == 0) = false := by simp; omega
    clear hK
    go_enter Tryd.func26, Tryd.ntmps26
    go_wp2_with (go_at_call 43; refine HMay.out.mono ?_; rintro e w' ⟨rfl, rfl⟩)
    go_ret2
    exact ⟨_, by rw [HK.out]; rfl, by rw [HQ.out]; exact RC.nil, Below.refl _ _⟩
end Go.Proofs.YtcikcnkhcfhomaaDoor.Hand
/- Contracts: the document's number: a number's digits. -/
namespace Go.Proofs.YtcikcnkhcfhomaaDoor.Hand
open Go.RowKit Go.Proofs.YtcikcnkhcfhomaaDoorW.PrintWords Go.Proofs.YtcikcnkhcfhomaaDoorW.PrintMore Go.Proofs.YtcikcnkhcfhomaaDoor.Math

def dgB (d : Nat) : ByteArray := ⟨#[UInt8.ofNat (48 + d)]⟩
theorem decB_small {n : Nat} (h : n < 10) : decB n = dgB n := by
  unfold decB dgB
  rw [Lib.decDigits, dif_pos h]
theorem decB_big {n : Nat} (h : ¬ n < 10) : decB n = decB (n / 10) ++ dgB (n % 10) := by
  unfold decB dgB
  rw [Lib.decDigits, dif_neg h]
  apply ByteArray.ext
  simp [ByteArray.data_append]
theorem decB_size {k n : Nat} (h : n < 10 ^ (k + 1)) : (decB n).size ≤ k + 1 := decDigits_len k n h
theorem strOfNums_dg (d : Nat) : strOfNums [(48 : Int) + (d : Int)] = dgB d := by
  unfold strOfNums dgB
  have : ((48 : Int) + (d : Int)).toNat = 48 + d := by omega
  simp [this]
theorem byte_str (W : World) (x : Int) : (convert 90 9 (.slice (some ⟨W.heap.size, 0, none⟩) 1 1)).run Tryd.prog (W.alloc (.cells #[.int .u8 x] 5)) = .ok (.string (strOfNums [x])) (W.alloc (.cells #[.int .u8 x] 5)) :=
  Kd.C_string (xs := [x]) Tryd.underlying90 Tryd.underlying5 Tryd.underlying9 (Kd.R_reads' (R_lit (enc := Value.int .u8) (h1 := fun _ => rfl) 5 W.heap.size W [x] (Nat.le_refl _) (by unfold maxLen; simp))).2.2
set_option maxHeartbeats 1000000 in
theorem number_calls (n : Nat) (w : World) (hn : n < 1000000000) : Calls Tryd.prog 45 #[.int .i64 n] w fun e w' => e = .returned (.string (decB n)) ∧ Below w.heap.size w w' := by
  have hz : (decB n).size ≤ 9 := decB_size (k := 8) (by omega)
  go_enter Tryd.func45, Tryd.ntmps45
  go_wp2
  go_loopw [0, 3] (fun x ss wr => ∃ (q : Nat) (s : ByteArray), x = .int .i64 q ∧ q ≤ n ∧ ss = .string s ∧ s.size ≤ 9 ∧ Hid (decB n = decB q ++ s) ∧ Hid (Below w.heap.size w wr)) (fun x _ _ => (intOf x).toNat)
  case atStart => exact ⟨n, ⟨#[]⟩, rfl, by omega, rfl, by show 0 ≤ 9; omega, Lib.hid (by apply ByteArray.ext; simp [ByteArray.data_append]), Lib.hid (Below.refl _ _)⟩
  case round =>
    obtain ⟨q, s, rfl, hq, rfl, hs, HS, HB⟩ := hrel
    have hc := byte_str wr
    by_cases hlt : 9 < q
    · obtain ⟨d, hd⟩ : ∃ d, q % 10 = d := ⟨_, rfl⟩
      obtain ⟨p, hp⟩ : ∃ p, q / 10 = p := ⟨_, rfl⟩
      have hd9 : d ≤ 9 := by omega
      have hpq : p < q := by omega
      have hdI : (q : Int) % 10 = (d : Int) := by omega
      have hpI : (q : Int) / 10 = (p : Int) := by omega
      have HN : Hid (decB n = decB p ++ (dgB d ++ s)) := Lib.hid (by rw [HS.out, decB_big (by omega), hd, hp, ByteArray.append_assoc])
      have HZ : Hid ((dgB d ++ s).size ≤ 9) := Lib.hid (by
        have := congrArg ByteArray.size HN.out
        rw [ByteArray.size_append] at this
        omega)
      have hw8 : IntKind.u8.wrap (48 + (d : Int)) = 48 + (d : Int) := by
        unfold IntKind.wrap
        simp [IntKind.bits, IntKind.signed]
        omega
      have hstr := strOfNums_dg d
      have hdz : (dgB d).size = 1 := rfl
      clear hd hp
      go_wp2
      exact ⟨⟨p, _, rfl, by omega, rfl, HZ.out, HN, Lib.hid (below_alloc HB.out _)⟩, by simp [intOf]; omega⟩
    · have hw8 : IntKind.u8.wrap (48 + (q : Int)) = 48 + (q : Int) := by
        unfold IntKind.wrap
        simp [IntKind.bits, IntKind.signed]
        omega
      have HN : Hid (decB n = dgB q ++ s) := Lib.hid (by rw [HS.out, decB_small (by omega)])
      have hstr := strOfNums_dg q
      have hdz : (dgB q).size = 1 := rfl
      go_wp2
      go_ret
      exact ⟨by rw [HN.out]; rfl, below_alloc HB.out _⟩
end Go.Proofs.YtcikcnkhcfhomaaDoor.Hand
/- Contracts: the document's Text. -/
namespace Go.Proofs.YtcikcnkhcfhomaaDoor.Hand
open Go.RowKit Go.Proofs.YtcikcnkhcfhomaaDoorW.PrintWords Go.Proofs.YtcikcnkhcfhomaaDoorW.PrintMore Go.Proofs.YtcikcnkhcfhomaaDoor.Math

def joinT (T : Nat → ByteArray) (a b : Nat) : Nat → ByteArray := fun i => if i = b then ⟨#[]⟩ else if i = a then pB (T a) (T b) else T i
theorem map_joinT {S : List Nat} (hS : S.Pairwise (· < ·)) {T : Nat → ByteArray} {k a b : Nat} (h : k + 1 < S.length) (ha : S.getD k 0 = a) (hb : S.getD (k + 1) 0 = b) :
    (S.eraseIdx (k + 1)).map (joinT T a b) = ((S.map T).take k ++ [pB (T a) (T b)]) ++ (S.map T).drop (k + 2) := by
  rw [getD_at (show k < S.length by omega)] at ha
  rw [getD_at h] at hb
  have hl : (S.eraseIdx (k + 1)).length = S.length - 1 := by rw [List.length_eraseIdx, if_pos h]
  have hab : a < b := by rw [← ha, ← hb]; exact getElem_lt_of hS h (by omega)
  have far : ∀ j (hj : j < S.length), j ≠ k → j ≠ k + 1 → joinT T a b S[j] = T S[j] := fun j hj h1 h2 => by
    unfold joinT
    have e1 : S[j] ≠ b := by
      rw [← hb]
      rcases Nat.lt_or_gt_of_ne h2 with h | h
      · have := getElem_lt_of hS (show k + 1 < S.length by omega) h; omega
      · have := getElem_lt_of hS hj h; omega
    have e2 : S[j] ≠ a := by
      rw [← ha]
      rcases Nat.lt_or_gt_of_ne h1 with h | h
      · have := getElem_lt_of hS (show k < S.length by omega) h; omega
      · have := getElem_lt_of hS hj h; omega
    rw [if_neg e1, if_neg e2]
  apply List.ext_getElem?
  intro j
  rw [List.getElem?_map]
  rcases Nat.lt_or_ge j (S.length - 1) with hj | hj
  · rw [List.getElem?_eraseIdx]
    rcases Nat.lt_trichotomy j k with h1 | h1 | h1
    · rw [if_pos (by omega), List.append_assoc, List.getElem?_append_left (by simp; omega), List.getElem?_take, if_pos h1, List.getElem?_map, List.getElem?_eq_getElem (show j < S.length by omega)]
      simp [far j (by omega) (by omega) (by omega)]
    · subst h1
      rw [if_pos (by omega), List.append_assoc, List.getElem?_append_right (by simp; omega), List.getElem?_eq_getElem (show j < S.length by omega)]
      simp only [Option.map_some, ha, List.length_take, List.length_map]
      rw [show j - min j S.length = 0 by omega]
      unfold joinT
      rw [if_neg (by omega), if_pos rfl]
      rfl
    · rw [if_neg (by omega), List.getElem?_append_right (by simp; omega), List.getElem?_drop]
      have e : k + 2 + (j - ((S.map T).take k ++ [pB (T a) (T b)]).length) = j + 1 := by simp; omega
      rw [e, List.getElem?_map, List.getElem?_eq_getElem (show j + 1 < S.length by omega)]
      simp [far (j + 1) (by omega) (by omega) (by omega)]
  · rw [List.getElem?_eq_none (by rw [hl]; exact hj), List.getElem?_eq_none (by simp; omega)]
    rfl
/-- The text, or none; what is wrong. -/
def textR (m : Int) (o : List Int) : ByteArray := if ordE m o = 0 ∧ m ≤ 4096 then txtF (joinL m.toNat (List.range m.toNat) (o.map Int.toNat)) decB 0 else ⟨#[]⟩
def textE (m : Int) (o : List Int) : Nat := if ordE m o = 0 then (if m ≤ 4096 then 0 else 1) else ordE m o
theorem textE_lt (m : Int) (o : List Int) : textE m o < 16 := by
  unfold textE
  have := ordE_lt m o
  split
  · split <;> omega
  · exact this
/-- The memory of the document's Text. -/
structure RTx (w0 w : World) (M j : Nat) (on : List Nat) (rv : Value) (S : List Nat) (T : Nat → ByteArray) : Prop where
  st : Starts M S
  len : S.length + j = M
  ord : OrdOk S.length (on.drop j)
  eq : txtF (joinL M S (on.drop j)) T 0 = txtF (joinL M (List.range M) on) decB 0
  sum : sumS T M ≤ 4 * M + 3 * j
  own : Kd.string.R 9 w w0.heap.size (fun _ => True) rv (S.map T)
  bel : Below w0.heap.size w0 w
theorem RTx.next {w0 w w1 : World} {M j k a b : Nat} {on : List Nat} {rv r1 : Value} {S : List Nat} {T : Nat → ByteArray} (h : RTx w0 w M j on rv S T) (hd : on.drop j = k :: on.drop (j + 1)) (hk : k + 1 < S.length ∧ OrdOk (S.length - 1) (on.drop (j + 1)))
    (ha : S.getD k 0 = a) (hb : S.getD (k + 1) 0 = b) (hr : Kd.string.R 9 w1 w.heap.size (fun _ => True) r1 (((S.map T).take k ++ [pB (T a) (T b)]) ++ (S.map T).drop (k + 2))) (hbl : Below w.heap.size w w1) : RTx w0 w1 M (j + 1) on r1 (S.eraseIdx (k + 1)) (joinT T a b) := by
  have hl : (S.eraseIdx (k + 1)).length = S.length - 1 := by rw [List.length_eraseIdx, if_pos hk.1]
  have ha' := ha
  have hb' := hb
  rw [getD_at (show k < S.length by omega)] at ha'
  rw [getD_at hk.1] at hb'
  have hab : a < b := by rw [← ha', ← hb']; exact getElem_lt_of h.st.up hk.1 (by omega)
  have hbM : b < M := by rw [← hb']; exact h.st.lt _ (List.getElem_mem _)
  refine ⟨h.st.erase k, by have := h.len; omega, by rw [hl]; exact hk.2, ?_, ?_, ?_, below_next h.bel hbl⟩
  · rw [← h.eq, hd, joinL, txtF]
    simp only
    rw [ha, getD_at (d := M) hk.1, hb']
    rfl
  · have := sumS_join (T := T) (n := M) (a := a) (b := b) (by omega) hbM (by omega)
    have h2 := h.sum
    show sumS (fun i => if i = b then ⟨#[]⟩ else if i = a then pB (T a) (T b) else T i) M ≤ _
    omega
  · rw [map_joinT h.st.up hk.1 ha hb]
    exact Kd.R_lower hr h.bel.size
theorem row_strs {w : World} {ad : Addr} {S : List Nat} {T : Nat → ByteArray} {k a b : Nat} (hC : Kd.string.C w (some ad) (S.map T).length (S.map T)) (hk : k + 1 < S.length) (h0 : S.getD k 0 = a) (h1 : S.getD (k + 1) 0 = b) :
    w.cell? (ad.add k) = some (.string (T a)) ∧ w.cell? ⟨ad.block, ad.off + (k + 1), none⟩ = some (.string (T b)) := by
  rw [getD_at (show k < S.length by omega)] at h0
  rw [getD_at hk] at h1
  obtain ⟨ad2, y0, e2, p0, HX0⟩ := at_scalar hC k (by simp; omega) ⟨#[]⟩
  obtain ⟨ad3, y1, e3, p1, HX1⟩ := at_scalar hC (k + 1) (by simp; omega) ⟨#[]⟩
  obtain rfl := Option.some.inj e2
  obtain rfl := Option.some.inj e3
  have q0 := HX0.out
  have q1 := HX1.out
  rw [List.getD_eq_getElem?_getD, List.getElem?_map, List.getElem?_eq_getElem (show k < S.length by omega)] at q0
  rw [List.getD_eq_getElem?_getD, List.getElem?_map, List.getElem?_eq_getElem hk] at q1
  simp [h0] at q0
  simp [h1] at q1
  rw [q0, q1]
  rw [show ad.add (k + 1) = ⟨ad.block, ad.off + (k + 1), none⟩ by unfold Addr.add; rw [if_neg (by omega)]] at p1
  exact ⟨p0, p1⟩
set_option maxHeartbeats 2000000 in
set_option maxRecDepth 20000 in
theorem refText_calls (m : Int) (A : Option Addr) (c : Nat) (o : List Int) (w : World) (hr : Kd.C (Kd.int .i64) w A o.length o) (hm : -9223372036854775808 ≤ m ∧ m ≤ 9223372036854775807) :
    Calls Tryd.prog 28 #[.int .i64 m, .slice A o.length c] w fun e w' => e = .returned (.tuple #[.string (textR m o), .int .i64 (textE m o : Nat)]) ∧ Below w.heap.size w w' := by
  have HR := Lib.hid hr
  have HMay := Lib.hid (may_calls m A c o w hr hm)
  obtain ⟨K, hK⟩ : ∃ K, ordE m o = K := ⟨_, rfl⟩
  rw [hK] at HMay
  clear hr
  by_cases h0 : K = 0
  · obtain ⟨hm1, hol, hov, hok⟩ := ordE_ok (hK.trans h0)
    obtain ⟨M, rfl⟩ : ∃ M : Nat, m = (M : Int) := ⟨m.toNat, by omega⟩
    rw [Int.toNat_natCast] at hok
    have HK := Lib.hid hK
    subst h0
    by_cases hbig : 4096 < (M : Int)
    · have HQ : Hid (textR (M : Int) o = ⟨#[]⟩ ∧ textE (M : Int) o = 1) := Lib.hid ⟨by unfold textR; rw [if_neg (by omega)], by unfold textE; rw [if_pos HK.out, if_neg (by omega)]⟩
      clear hK hov hok hol
      go_enter Tryd.func28, Tryd.ntmps28
      go_wp2_with (go_at_call 43; refine HMay.out.mono ?_; rintro e w' ⟨rfl, rfl⟩)
      go_ret2
      exact ⟨by rw [HQ.out.1, HQ.out.2]; rfl, Below.refl _ _⟩
    · have HQ : Hid (textR (M : Int) o = txtF (joinL M (List.range M) (o.map Int.toNat)) decB 0 ∧ textE (M : Int) o = 0) := Lib.hid ⟨by unfold textR; rw [if_pos ⟨HK.out, by omega⟩, Int.toNat_natCast], by unfold textE; rw [if_pos HK.out, if_pos (by omega)]⟩
      have HOv := Lib.hid hov
      have HOk := Lib.hid hok
      have hM : M ≤ 4096 := by omega
      have hoM : o.length + 1 = M := by omega
      clear hK hov hok hol
      go_enter Tryd.func28, Tryd.ntmps28
      go_upto_region 6 with (go_at_call 43; refine HMay.out.mono ?_; rintro e w' ⟨rfl, rfl⟩)
      go_wp2
      go_loopw [7, 8] (fun uu x wr => ∃ (j : Nat) (u : Value), x = .int .i64 j ∧ j ≤ M ∧ u = uu ∧ Hid (Kd.string.R 9 wr w.heap.size (fun _ => True) u ((List.range j).map decB) ∧ Below w.heap.size w wr)) (fun _ x _ => M - (intOf x).toNat)
      case atStart => exact ⟨0, _, rfl, by omega, rfl, Lib.hid ⟨Kd.R_nil _ _ _ _ _, Below.refl _ _⟩⟩
      case round =>
        obtain ⟨j, u, rfl, hj, rfl, HS⟩ := hrel
        by_cases hlt : j < M
        · have HNm := Lib.hid (number_calls j wr (by omega))
          go_wp2_with (first
            | (go_at_call 45; refine HNm.out.mono ?_; rintro e w1 ⟨rfl, hb⟩; have HR1 := Lib.hid (Kd.R_below HS.out.1 hb); have HB1 := Lib.hid (below_next HS.out.2 hb); clear hb)
            | ((with_reducible refine gate_builtin (b := .append) (xs := #[.tmp 25, .tmp 28]) rfl ?_); at_builtin; go_loud (refine Kd.R_append Kd.string (w0 := w) w.heap.size rfl (.tmp 25) (.tmp 28) 68 9 (.string ⟨#[]⟩) 16 rfl Tryd.underlying68 infoStr rfl (by decide) (by omega) u ((List.range j).map decB) (decB j) [.string (decB j)] (fun _ => True) (fun _ => False) rfl rfl rfl (fun _ hk => hk.elim) (fun _ _ => trivial) HR1.out HB1.out HB1.out.size (by simp; omega) ?_); intro v2 w2 ho hb hg hat; (have H2 : Hid (Kd.string.R 9 w2 w.heap.size (fun _ => True) v2 ((List.range (j + 1)).map decB) ∧ Below w.heap.size w w2) := Lib.hid ⟨by rw [List.range_succ, List.map_append]; exact ho, hb⟩; clear ho hb hg hat)))
          go_roundw
          case rel => exact ⟨j + 1, _, by go_num, by omega, rfl, H2⟩
          case measure => simp [intOf]; omega
        · obtain rfl : j = M := by omega
          have hsum : ∀ n, n ≤ j → sumS decB n ≤ 4 * n := by
            intro n
            induction n with
            | zero => intro _; simp [sumS]
            | succ n ih =>
              intro h
              rw [sumS]
              have := ih (by omega)
              have := decB_size (k := 3) (n := n) (by omega)
              omega
          have HJ : Hid (RTx w wr j 0 (o.map Int.toNat) u (List.range j) decB) := Lib.hid
            ⟨Starts.range j, by simp, by rw [List.length_range]; exact HOk.out, by simp, by have := hsum j (Nat.le_refl _); omega, HS.out.1, HS.out.2⟩
          clear HS hsum
          obtain ⟨wo, rfl⟩ : ∃ wo : World, wo = wr := ⟨_, rfl⟩
          go_wp2
          go_loopw [7, 9] (fun rr x wr => ∃ (q : Nat) (S : List Nat) (T : Nat → ByteArray) (r : Value), x = .int .i64 q ∧ q ≤ o.length ∧ r = rr ∧ Hid (RTx w wr j q (o.map Int.toNat) r S T)) (fun _ x _ => o.length - (intOf x).toNat)
          case atStart => exact ⟨0, _, _, _, rfl, by omega, rfl, HJ⟩
          case round =>
            obtain ⟨q, S, T, r, rfl, hq, rfl, HS⟩ := hrel
            by_cases hlt2 : q < o.length
            · obtain ⟨ad, y, rfl, hc, HY⟩ := at_nat (Kd.C_below HR.out HS.out.bel) q hlt2
              have hyv := HOv.out q hlt2
              rw [HY.out] at hyv
              obtain ⟨k, rfl⟩ : ∃ k : Nat, y = (k : Int) := ⟨y.toNat, by omega⟩
              have hdrop : (o.map Int.toNat).drop q = k :: (o.map Int.toNat).drop (q + 1) := by
                rw [List.drop_eq_getElem_cons (by simpa using hlt2)]
                congr 1
                have := HY.out
                rw [List.getD_eq_getElem?_getD, List.getElem?_eq_getElem hlt2] at this
                simp at this ⊢
                omega
              have HD := Lib.hid hdrop
              have hho := HS.out.ord
              rw [hdrop] at hho
              have HK2 := Lib.hid hho.head
              have hk1 : k + 1 < S.length := hho.head.1
              have hSj : S.length ≤ 4096 := by have := HS.out.len; omega
              obtain ⟨a, ha⟩ : ∃ x, S.getD k 0 = x := ⟨_, rfl⟩
              obtain ⟨b, hb⟩ : ∃ x, S.getD (k + 1) 0 = x := ⟨_, rfl⟩
              have haM : a < j := by rw [← ha, getD_at (show k < S.length by omega)]; exact HS.out.st.lt _ (List.getElem_mem _)
              have hbM : b < j := by rw [← hb, getD_at hk1]; exact HS.out.st.lt _ (List.getElem_mem _)
              have za := sumS_ge T j a haM
              have zb := sumS_ge T j b hbM
              have zs := HS.out.sum
              obtain ⟨ta, hta⟩ : ∃ t, T a = t := ⟨_, rfl⟩
              obtain ⟨tb, htb⟩ : ∃ t, T b = t := ⟨_, rfl⟩
              rw [hta] at za
              rw [htb] at zb
              have za2 : ta.size ≤ 40000 := by omega
              have zb2 : tb.size ≤ 40000 := by omega
              obtain ⟨A2, c2, rfl, hc2, hC2⟩ := (RC.of_R HS.out.own).form (n := S.length) (by simp)
              obtain ⟨ad2, rfl, -⟩ := hC2.2.2 (by simp; omega)
              have HRd : Hid (∀ W, Kd.string.C W (some ad2) (S.map T).length (S.map T) → W.cell? (ad2.add k) = some (.string ta) ∧ W.cell? ⟨ad2.block, ad2.off + (k + 1), none⟩ = some (.string tb)) := Lib.hid (fun W h => by rw [← hta, ← htb]; exact row_strs h hk1 ha hb)
              have HA := Lib.hid ha
              have HBb := Lib.hid hb
              have HTa := Lib.hid hta
              have HTb := Lib.hid htb
              have HC := Lib.hid hC2
              have hk1I : (k : Int) + 1 < (S.length : Int) := by omega
              have hk0I : (k : Int) < (S.length : Int) := by omega
              have HTk : Hid (Kd.string.C wr (some ad2) k ((S.map T).take k)) := Lib.hid (by
                have := Kd.C_take (m := k) hC2 (by simp; omega)
                rwa [List.length_take, List.length_map, Nat.min_eq_left (by omega)] at this)
              have HTl : Hid (((S.map T).take k).length = k) := Lib.hid (by rw [List.length_take, List.length_map]; omega)
              clear hdrop hho hyv ha hb hta htb za zb zs hC2
              obtain ⟨w5, rfl⟩ : ∃ wo : World, wo = wr := ⟨_, rfl⟩
              go_upto_region 17 with ((with_reducible refine gate_builtin (b := .append) (xs := #[.tmp 40, .tmp 43]) rfl ?_); at_builtin; go_loud (refine Kd.R_append_rows Kd.string (w0 := w5) w5.heap.size rfl (.tmp 40) (.tmp 43) 68 9 (.string ⟨#[]⟩) 16 rfl Tryd.underlying68 infoStr rfl (by decide) (by omega) (.slice none 0 0) ([] : List ByteArray) ((S.map T).take k) _ _ _ (fun _ => True) (fun _ => False) rfl rfl (Kd.R_nil _ _ _ _ _) HTk.out (fun _ _ h => h) (fun _ h => h.elim) (fun _ _ => trivial) (Below.refl _ _) (Nat.le_refl _) (by simp; omega) ?_); intro v6 w6 ho hb _ _; rw [List.nil_append] at ho; have HO6 := Lib.hid ho; have HB6 := Lib.hid hb; clear ho hb)
              have hC6 := Kd.C_below HC.out HB6.out
              have D0 := Lib.hid (HRd.out _ (Kd.C_drew hC6))
              have D1 := Lib.hid (HRd.out _ (Kd.C_alloc (Kd.C_drew hC6) (.cells #[.string ((⟨#[40]⟩ : ByteArray) ++ ta ++ (⟨#[32]⟩ : ByteArray) ++ tb ++ (⟨#[41]⟩ : ByteArray))] 9)))
              have HO6' := Lib.hid (Kd.R_drew HO6.out)
              have HB6' := Lib.hid (below_drew HB6.out)
              have HS6 : Hid (w5.heap.size ≤ w6.drew.heap.size) := Lib.hid HB6'.out.size
              have hs1 : IntKind.i64.wrap ((k : Int) + 1) = (k : Int) + 1 := IntWalk.i64_in _ (by omega)
              have hs2 : (0 : Int) ≤ (k : Int) + 1 := by omega
              have hs3 : ((k : Int) + 1).toNat = k + 1 := by omega
              have hq1 : ¬ 9223372036854775807 < 1 + ta.size := by omega
              have hq2 : ¬ 9223372036854775807 < 1 + ta.size + 1 := by omega
              have hq3 : ¬ 9223372036854775807 < 1 + ta.size + 1 + tb.size := by omega
              have hq4 : ¬ 9223372036854775807 < 1 + ta.size + 1 + tb.size + 1 := by omega
              clear hC6
              go_region_held3 (fun w' => w'.cell? (ad2.add k) = some (.string ta) ∧ w'.cell? ⟨ad2.block, ad2.off + (k + 1), none⟩ = some (.string tb))
                (first
                  | exact D2.out
                  | exact D1.out
                  | exact D0.out)
                ((go_loud (refine Kd.R_append_step Kd.string (w0 := w5) (W := w6.drew) w5.heap.size (by rfl) (.tmp 45) (.tmp 59) 68 9 (.string ⟨#[]⟩) 16 rfl Tryd.underlying68 infoStr rfl (by decide) (by omega) v6 ((S.map T).take k) ((⟨#[40]⟩ : ByteArray) ++ ta ++ (⟨#[32]⟩ : ByteArray) ++ tb ++ (⟨#[41]⟩ : ByteArray)) [.string ((⟨#[40]⟩ : ByteArray) ++ ta ++ (⟨#[32]⟩ : ByteArray) ++ tb ++ (⟨#[41]⟩ : ByteArray))] (fun _ => True) (fun _ => False) rfl rfl rfl (fun _ hk => hk.elim) (fun _ _ => trivial) HO6'.out HB6'.out HS6.out (by have := HTl.out; omega) ?_); intro v7 w7 ho hb hg hat; have HO7 := Lib.hid ho; have HB7 := Lib.hid hb; have hC7 := Kd.C_below HC.out hb; have D2 := Lib.hid (HRd.out _ hC7); have HC7 := Lib.hid hC7; clear ho hb hg hat hC7))
              clear hs1 hs2 hs3 hq1 hq2 hq3 hq4
              obtain ⟨ti, hti, hzz⟩ := Option.map_eq_some_iff.1 infoStr
              have hsz2 : ti.size = Kd.string.sz := by simp only [Prod.mk.injEq] at hzz; exact hzz.2.1
              obtain ⟨A8, hcut, hC8⟩ := cut_drop (P := Tryd.prog) Kd.string 68 9 Tryd.underlying68 hti hsz2 (some ad2) c2 (S.map T) ((k : Int) + 2) (k + 2) (by omega) (by simp; omega) (by simp; omega)
              rw [List.length_map] at hcut
              have hc8 := hC8 w7 HC7.out
              have hl8 : ((S.map T).drop (k + 2)).length ≤ 65537 := by rw [List.length_drop, List.length_map]; omega
              obtain ⟨n8, hn8⟩ : ∃ n, ((S.map T).drop (k + 2)).length = n := ⟨_, rfl⟩
              rw [hn8] at hcut hl8
              obtain ⟨R8, hR8⟩ : ∃ R, (S.map T).drop (k + 2) = R := ⟨_, rfl⟩
              rw [hn8, hR8] at hc8
              have HC8 := Lib.hid hc8
              have HR8 := Lib.hid hR8
              clear hC8 hti hzz hsz2 hc8 hn8 hR8
              go_wp2_with ((with_reducible refine gate_builtin (b := .append) (xs := #[.tmp 61, .tmp 65]) rfl ?_); at_builtin; go_loud (refine Kd.R_append_rows Kd.string (w0 := w5) w5.heap.size rfl (.tmp 61) (.tmp 65) 68 9 (.string ⟨#[]⟩) 16 rfl Tryd.underlying68 infoStr rfl (by decide) (by omega) v7 ((S.map T).take k ++ [((⟨#[40]⟩ : ByteArray) ++ ta ++ (⟨#[32]⟩ : ByteArray) ++ tb ++ (⟨#[41]⟩ : ByteArray))]) R8 _ _ _ (fun _ => True) (fun _ => False) rfl rfl HO7.out HC8.out (fun _ _ h => h) (fun _ h => h.elim) (fun _ _ => trivial) HB7.out HB7.out.size (by have := HTl.out; simp only [List.length_append, List.length_cons, List.length_nil]; omega) ?_); intro v9 w9 ho hb _ _; have HN9 : Hid (RTx w w9 j (q + 1) (o.map Int.toNat) v9 (S.eraseIdx (k + 1)) (joinT T a b)) := Lib.hid (HS.out.next HD.out HK2.out HA.out HBb.out (by rw [HTa.out, HTb.out, HR8.out]; exact ho) hb); clear ho hb)
              go_roundw
              case rel => exact ⟨q + 1, _, _, _, by go_num, by omega, rfl, HN9⟩
              case measure => simp [intOf]; omega
            · obtain rfl : q = o.length := by omega
              have hS1 : S = [0] := HS.out.st.one (by have := HS.out.len; omega)
              have he := HS.out.eq
              rw [List.drop_of_length_le (by simp), joinL, txtF] at he
              subst hS1
              obtain ⟨A2, c2, rfl, hc2, hC2⟩ := (RC.of_R HS.out.own).form (n := 1) (by simp)
              obtain ⟨ad2, y0, rfl, p0, HX0⟩ := at_scalar hC2 0 (by simp) ⟨#[]⟩
              have HY : Hid (y0 = txtF (joinL j (List.range j) (o.map Int.toNat)) decB 0) := Lib.hid (by rw [← HX0.out, ← he]; rfl)
              rw [show ad2.add 0 = ad2 by simp [Addr.add]] at p0
              clear he hC2
              go_wp2
              go_ret2
              exact ⟨by rw [HQ.out.1, HQ.out.2, ← HY.out]; rfl, HS.out.bel⟩
  · have HQ : Hid (textR m o = ⟨#[]⟩ ∧ textE m o = K) := Lib.hid ⟨by unfold textR; rw [if_neg (by omega)], by unfold textE; rw [if_neg (by omega), hK]⟩
    have hne : ((K : Int) != 0) = true := by simp; omega
    have hne2 : ((K : Int) == 0) = false := by simp; omega
    clear hK
    go_enter Tryd.func28, Tryd.ntmps28
    go_wp2_with (go_at_call 43; refine HMay.out.mono ?_; rintro e w' ⟨rfl, rfl⟩)
    go_ret2
    exact ⟨by rw [HQ.out.1, HQ.out.2]; rfl, Below.refl _ _⟩
end Go.Proofs.YtcikcnkhcfhomaaDoor.Hand
/- strconv.Itoa, by the library's table of powers; plan.Text by what it answers. -/
namespace Go.Proofs.YtcikcnkhcfhomaaDoor.Hand
open Go.ChangeShapes
open Go.RowKit Go.Proofs.YtcikcnkhcfhomaaDoorW.PrintWords Go.Proofs.YtcikcnkhcfhomaaDoorW.PrintMore Go.Proofs.YtcikcnkhcfhomaaDoor.Math

/-- The library's table of powers is there. -/
def Pow10 (w : World) : Prop := Lib.TabIs Tryd.prog w "internal/strconv.uint64pow10" .u64 Lib.pow10Tab
theorem pow10_named : Tryd.prog.globalNamed "internal/strconv.uint64pow10" = some 16 := by kernel_rfl
theorem Pow10.below {w w' : World} (h : Pow10 w) (hb : Below w.heap.size w w') : Pow10 w' := by
  unfold Pow10 Lib.TabIs World.var? at h ⊢
  rw [pow10_named] at h ⊢
  simp only [Option.bind_some] at h ⊢
  have hlt : 16 < w.heap.size := by
    rcases Nat.lt_or_ge 16 w.heap.size with h1 | h1
    · exact h1
    · rw [Array.getElem?_eq_none h1] at h; cases h
  rw [hb.block _ hlt]
  exact h
theorem pow10_nums : Rows.laid_internal_strconv_uint64pow10 = (Lib.tabData .u64 Lib.pow10Tab : DataW Unit) := by rfl
theorem laid_pow10 {l : List (String × DataW Unit)} {W : World} (h : laidMetH Tryd.prog l W) (hp : (l.all fun x => x.2.handleName?.isNone) = true) (hm : (l.filter fun x => x.1 == "internal/strconv.uint64pow10") = [("internal/strconv.uint64pow10", Rows.laid_internal_strconv_uint64pow10)]) : Pow10 W := by
  rw [MakeChecks.laidMetH_plain _ _ _ hp] at h
  have h1 := h.filter (fun x => x.1 == "internal/strconv.uint64pow10")
  rw [hm, pow10_nums] at h1
  exact Lib.tabIs_of_head pow10_named (show (Tryd.prog.globals[16]?).map (·.type) = some 125 by kernel_rfl) Tryd.underlying125 Tryd.underlying119 (by kernel_rfl) (by kernel_rfl) h1
theorem itoa_calls (i : Nat) (hi : i < 1000000000) (w : World) (hT : Pow10 w) : Calls Tryd.prog 44 #[.int .i64 i] w fun e w' => e = .returned (.string (decB i)) ∧ Below w.heap.size w w' := by
  refine (Tryd.strconv_Itoa (i : Int) (by omega) (by omega) w hT).mono ?_
  rintro e w' ⟨rfl, k, os, rfl⟩
  refine ⟨?_, ?_⟩
  · have : Lib.itoa (i : Int) = Lib.decDigits i := by
      unfold Lib.itoa
      rw [if_neg (by omega), Int.toNat_natCast]
    rw [this]; rfl
  · refine ⟨rfl, rfl, rfl, ?_, fun q hq => ?_⟩
    · show w.heap.size ≤ (w.heap ++ os).size
      simp
    · show (w.heap ++ os)[q]? = _
      rw [Array.getElem?_append_left hq]
theorem textX_calls (m : Int) (A : Option Addr) (c : Nat) (o : List Int) (w : World) (Ae : Nat → Addr) (hE : ErrsL [0, 8] w Ae) (hT : Pow10 w) (hr : Kd.C (Kd.int .i64) w A o.length o) (hm : -9223372036854775808 ≤ m ∧ m ≤ 9223372036854775807) (hl : o.length ≤ 17592186044415) :
    Calls Tryd.prog 27 #[.int .i64 m, .slice A o.length c] w fun e w' => ∃ ev, e = .returned (.tuple #[.string (textR m o), ev]) ∧ ErrV w' Ae ev (textE m o) (-1) ∧ Below w.heap.size w w' := by
  refine (text_calls m A c o w Ae hE hr hm hl (fun i hi _ W hW => itoa_calls i (by omega) W (hT.below hW))).mono ?_
  rintro e w' ⟨hb, ⟨k, hk, rfl⟩ | ⟨h0, h4, rfl⟩ | ⟨h0, h4, rfl⟩⟩
  · refine ⟨_, by unfold textR; rw [if_neg (by omega)], ?_, hb⟩
    have := ordE_lt m o
    unfold textE
    rw [if_neg (by omega), hk]
    exact .sent k (by omega)
  · refine ⟨_, by unfold textR; rw [if_neg (by omega)], ?_, hb⟩
    unfold textE
    rw [if_pos h0, if_neg (by omega)]
    exact .sent 0 (by omega)
  · refine ⟨_, by unfold textR; rw [if_pos ⟨h0, h4⟩], ?_, hb⟩
    unfold textE
    rw [if_pos h0, if_pos h4]
    exact .none
theorem joinsX_calls (m : Int) (A : Option Addr) (c : Nat) (o : List Int) (w : World) (Ae : Nat → Addr) (hE : ErrsL [0, 8] w Ae) (hr : Kd.C (Kd.int .i64) w A o.length o) (hm : -9223372036854775808 ≤ m ∧ m ≤ 9223372036854775807) (hl : o.length ≤ 17592186044415) :
    Calls Tryd.prog 10 #[.int .i64 m, .slice A o.length c] w fun e w' => ∃ v ev, e = .returned (.tuple #[v, ev]) ∧ RC K3 29 w' w.heap.size v (joinsR m o) ∧ ErrV w' Ae ev (ordE m o) (-1) ∧ Below w.heap.size w w' := by
  refine (joins_calls m A c o w Ae hE hr hm hl).mono ?_
  rintro e w' ⟨hb, ⟨k, hk, rfl⟩ | ⟨h0, v, rfl, hR⟩⟩
  · refine ⟨_, _, rfl, ?_, ?_, hb⟩
    · unfold joinsR; rw [if_neg (by omega)]; exact RC.nil
    · have := ordE_lt m o
      rw [hk]; exact .sent k (by omega)
  · refine ⟨_, _, rfl, ?_, ?_, hb⟩
    · unfold joinsR; rw [if_pos h0]; exact RC.of_R hR
    · rw [h0]; exact .none
theorem joinsR_len (m : Int) (o : List Int) : (joinsR m o).length ≤ 65536 := by
  unfold joinsR
  split
  · rename_i h
    obtain ⟨h1, h2, _, h3⟩ := ordE_ok h
    rw [List.length_map, joinL_length, List.length_map]
    omega
  · simp
end Go.Proofs.YtcikcnkhcfhomaaDoor.Hand
/- Contracts: plan.Read. -/
namespace Go.Proofs.YtcikcnkhcfhomaaDoor.Hand
open Go.RowKit Go.Proofs.YtcikcnkhcfhomaaDoorW.PrintWords Go.Proofs.YtcikcnkhcfhomaaDoorW.PrintMore Go.Proofs.YtcikcnkhcfhomaaDoor.Math

theorem wrong_calls (i : Int) (w : World) (Ae : Nat → Addr) (hE : ErrsL [1] w Ae) : Calls Tryd.prog 46 #[.int .i64 i] w fun e w' => ∃ pb, e = .returned (.tuple #[.int .i64 0, .slice none 0 0, .iface 70 (.pointer (some ⟨pb, 0, none⟩))]) ∧ w'.cell? ⟨pb, 0, none⟩ = some (.int .i64 i) ∧ w'.cell? ⟨pb, 1, none⟩ = some (.iface 133 (.pointer (some (Ae 1)))) ∧ w.heap.size ≤ pb ∧ Below w.heap.size w w' := by
  have e1 := hE.cells 1 (by decide)
  simp only [GE, List.getD_cons_zero, List.getD_cons_succ] at e1
  clear hE
  go_enter Tryd.func46, Tryd.ntmps46
  go_wp2
  go_region
  go_wp2
  go_ret3
  exact ⟨w.heap.size, rfl, by simp [go_sem], by simp [go_sem], Nat.le_refl _, below_drew (below_alloc (Below.refl _ _) _)⟩
def nI (x : Nat × Nat) : Int × Int := ((x.1 : Int), (x.2 : Int))
def oI (l : List Nat) : List Int := l.map (fun x : Nat => (x : Int))
/-- What plan.Read answers: the pieces, the order, the error's kind, its place. -/
def rdR (s : ByteArray) : Option Res := if 1048576 < s.size then none else some (readR s.data.toList)
def rdM (s : ByteArray) : Nat := match rdR s with | some (.ok m _) => m | _ => 0
def rdO (s : ByteArray) : List Int := match rdR s with | some (.ok _ o) => oI o | _ => []
def rdE (s : ByteArray) : Nat := match rdR s with | some (.ok _ _) => 0 | some (.bad _) => 2 | none => 1
def rdP (s : ByteArray) : Int := match rdR s with | some (.bad i) => (i : Int) | _ => -1
/-- The error's place, as ErrV has it. -/
def rdQ (s : ByteArray) : Int := match rdR s with | some (.bad i) => -2 - (i : Int) | _ => -1
theorem infoOp : (Tryd.prog.info? 76).map (fun i => (i.zero, i.size, i.bytes)) = some (some (.agg #[.int .i64 0, .int .i64 0]), 2, 16) := by kernel_rfl
/-- The memory of Read's loop. -/
structure RdSt (w0 w : World) (t : List UInt8) (R : Res) (l o : Value) (s : RSt) : Prop where
  two : TwoR K2 76 (Kd.int .i64) 3 w0 w l o (s.l.map nI) (oI s.o)
  run : Run t s R
  st : ∀ x ∈ s.l, x.1 ≤ 1 ∧ x.2 ≤ s.i
  bi : s.i ≤ t.length
  bp : s.p ≤ s.i
  bm : s.m ≤ s.i
  bl : s.l.length ≤ s.i
  bo : s.o.length ≤ s.i
/-- What Read leaves, by its answer. -/
def RdPost (w0 : World) (Ae : Nat → Addr) (R : Res) (e : Ending) (w' : World) : Prop :=
  (match R with
   | .ok m o => ∃ v, e = .returned (.tuple #[.int .i64 (m : Int), v, .nilIface]) ∧ RC (Kd.int .i64) 3 w' w0.heap.size v (oI o)
   | .bad i => ∃ pb, e = .returned (.tuple #[.int .i64 0, .slice none 0 0, .iface 70 (.pointer (some ⟨pb, 0, none⟩))]) ∧ w'.cell? ⟨pb, 0, none⟩ = some (.int .i64 (i : Int)) ∧ w'.cell? ⟨pb, 1, none⟩ = some (.iface 133 (.pointer (some (Ae 1))))) ∧ Below w0.heap.size w0 w'
theorem u8_is {x c : UInt8} : x = c ↔ (x.toNat : Int) = (c.toNat : Int) := by
  rw [Int.natCast_inj, UInt8.toNat_inj]
theorem RC.cutN {α : Type} {d : Kd α} {e base n cap : Nat} {w : World} {A : Option Addr} {xs : List α} (h : d.R e w base (fun _ => True) (.slice A n cap) xs) (hn : xs.length = n) : RC d e w base (.slice A n n) xs := by
  subst hn; exact RC.cut h
theorem hp_step {s D : ByteArray} {i k : Nat} (hk : k < D.size) : Lib.hasPrefix (s.extract i s.size).data.toList (D.extract k (k + 1)).data.toList = decide (s.data.toList[i]? = D.data.toList[k]?) := by
  have hkl : k < D.data.toList.length := by rw [Array.length_toList]; exact hk
  rw [Lib.extract_to_end, Lib.extract_data, show k + 1 - k = 1 by omega, List.drop_eq_getElem_cons hkl, List.take_succ_cons, List.take_zero, List.getElem?_eq_getElem hkl]
  unfold Lib.hasPrefix
  rcases Nat.lt_or_ge i s.data.toList.length with h | h
  · rw [List.drop_eq_getElem_cons h, List.getElem?_eq_getElem h]
    have e2 : List.isPrefixOf [D.data.toList[k]] (s.data.toList[i] :: s.data.toList.drop (i + 1)) = (D.data.toList[k] == s.data.toList[i]) := by simp [List.isPrefixOf]
    rw [e2, Bool.eq_iff_iff, beq_iff_eq, decide_eq_true_iff, Option.some.injEq]
    exact eq_comm
  · rw [List.drop_of_length_le h, List.getElem?_eq_none h]
    simp [List.isPrefixOf]
theorem R_head {α : Type} {d : Kd α} {e base n cap : Nat} {ok : Nat → Prop} {w : World} {ad : Addr} {xs : List α} (h : d.R e w base ok (.slice (some ad) n cap) xs) : ∃ g, ad = ⟨g, 0, none⟩ := by
  obtain ⟨inner, ho⟩ := Kd.R_own h
  rcases ho.2 with ⟨hv, _⟩ | ⟨g, cap', cur, hv, _⟩
  · cases hv
  · injection hv with ha _ _
    injection ha with ha
    exact ⟨g, ha⟩
theorem size1i : (Tryd.prog.info? 3).map (·.size) = some 1 := by
  obtain ⟨i, hi, hz⟩ := Option.map_eq_some_iff.1 infoInt
  rw [hi]
  simp only [Prod.mk.injEq] at hz
  simp [hz.2.1]
theorem getLast_snoc {α : Type} (l : List α) (x : α) : (l ++ [x]).getLast? = some x := by simp
theorem snoc_of {α : Type} {l : List α} (h : l ≠ []) : ∃ l0 x, l = l0 ++ [x] := ⟨l.dropLast, l.getLast h, (List.dropLast_concat_getLast h).symm⟩
set_option maxHeartbeats 4000000 in
set_option maxRecDepth 100000 in
theorem read_loop (txt : ByteArray) (w : World) (Ae : Nat → Addr) (hE : ErrsL [1] w Ae) (hP : Pow10 w) (hz : txt.size ≤ 1048576) :
    Calls Tryd.prog 30 #[.string txt] w (RdPost w Ae (readR txt.data.toList)) := by
  have HE := Lib.hid hE
  have HP := Lib.hid hP
  obtain ⟨t, ht⟩ : ∃ t, txt.data.toList = t := ⟨_, rfl⟩
  have htl : t.length = txt.size := by rw [← ht, Array.length_toList]; rfl
  obtain ⟨R, hR⟩ : ∃ R, readR t = R := ⟨_, rfl⟩
  rw [ht, hR]
  have HS0 : Hid (RdSt w w t R (.slice none 0 0) (.slice none 0 0) ⟨[], true, 0, 0, 0, []⟩) := Lib.hid
    ⟨⟨Kd.R_nil _ _ _ _ _, Kd.R_nil _ _ _ _ _, disj_nil _, Below.refl _ _⟩, by rw [← hR]; exact run_read t, fun x hx => absurd hx List.not_mem_nil, Nat.zero_le _, Nat.le_refl 0, Nat.le_refl 0, Nat.le_refl 0, Nat.le_refl 0⟩
  have HWr : Hid (∀ (i : Nat) (W : World), Below w.heap.size w W → R = .bad i → Calls Tryd.prog 46 #[.int .i64 i] W fun e w' => ∃ pb, e = .returned (.tuple #[.int .i64 0, .slice none 0 0, .iface 70 (.pointer (some ⟨pb, 0, none⟩))]) ∧ RdPost w Ae R e w') := Lib.hid (fun i W hW hr => (wrong_calls (i : Int) W Ae (HE.out.below hW)).mono (by
    rintro e w' ⟨pb, rfl, c0, c1, -, hb⟩
    exact ⟨pb, rfl, by rw [hr]; exact ⟨⟨pb, rfl, c0, c1⟩, below_next hW hb⟩⟩))
  have HT := Lib.hid ht
  have HTl := Lib.hid htl
  have HByte : Hid (∀ (i : Nat), i < txt.size → ∃ x : UInt8, t[i]? = some x ∧ ∀ h : i < txt.size, ((txt[i]'h).toNat : Int) = (x.toNat : Int)) := Lib.hid (fun i hi => by
    refine ⟨txt[i], ?_, fun h => rfl⟩
    rw [← ht, List.getElem?_eq_getElem (by rw [Array.length_toList]; exact hi)]
    rfl)
  clear hE hP ht htl hR
  have hbig : ¬ (1048576 : Int) < (txt.size : Int) := by omega
  go_enter Tryd.func30, Tryd.ntmps30
  go_wp2
  go_loopw [6, 7, 8, 9, 10, 11] (fun lv ov mv iv pv bv wr => ∃ (sl : List (Nat × Nat)) (sb : Bool) (si sm sp : Nat) (so : List Nat) (l o : Value), mv = .int .i64 sm ∧ iv = .int .i64 si ∧ pv = .int .i64 sp ∧ bv = .bool sb ∧ si ≤ txt.size ∧ l = lv ∧ o = ov ∧ Hid (RdSt w wr t R l o ⟨sl, sb, si, sm, sp, so⟩)) (fun _ _ _ iv _ _ _ => 2 * txt.size + 2 - (intOf iv).toNat)
  case atStart => exact ⟨[], true, 0, 0, 0, [], _, _, rfl, rfl, rfl, rfl, by omega, rfl, rfl, HS0⟩
  case round =>
    obtain ⟨sl, sb, si, sm, sp, so, l, o, rfl, rfl, rfl, rfl, hi, rfl, rfl, HS⟩ := hrel
    obtain ⟨wo, rfl⟩ : ∃ wo : World, wo = wr := ⟨_, rfl⟩
    obtain ⟨A1, c1, rfl, hc1, hC1⟩ := (RC.of_R HS.out.two.a).form (n := sl.length) (by simp)
    obtain ⟨A2, c2, rfl, hc2, hC2⟩ := (RC.of_R HS.out.two.b).form (n := so.length) (by simp [oI])
    have hbp : sp ≤ si := HS.out.bp
    have hbm : sm ≤ si := HS.out.bm
    have hbl : sl.length ≤ si := HS.out.bl
    have hbo : so.length ≤ si := HS.out.bo
    have HO := Lib.hid (Kd.R_reads' HS.out.two.b)
    clear hC2
    by_cases hA : sb = false ∧ sl = []
    · obtain ⟨rfl, rfl⟩ := hA
      by_cases hlt : si < txt.size
      · have hr : R = .bad si := HS.out.run.to_stop (by unfold stepR; simp [HTl.out, hlt])
        have HCl := Lib.hid (HWr.out si wo HS.out.two.bel hr)
        clear hr
        go_wp2_with (go_at_call 46; refine HCl.out.mono ?_; rintro e w1 ⟨pb, rfl, hp⟩; have HPs := Lib.hid hp; clear hp)
        go_ret3
        exact HPs.out
      · obtain rfl : si = txt.size := by omega
        have HRr : Hid (R = .ok sm so) := Lib.hid (HS.out.run.to_stop (by unfold stepR; simp [HTl.out]))
        go_upto_region 11 with (fail)
        go_region
        go_wp2
        go_ret3
        refine (show RdPost w Ae R _ _ from ?_)
        rw [HRr.out]
        exact ⟨⟨_, rfl, RC.cutN (Kd.R_drew HS.out.two.b) (by simp [oI])⟩, below_drew HS.out.two.bel⟩
    · have hcase : sb = true ∨ (sb = false ∧ ∃ (l0 : List (Nat × Nat)) (k a : Nat), sl = l0 ++ [(k, a)]) := by
        cases sb with
        | true => exact .inl rfl
        | false =>
          obtain ⟨l0, ⟨k, a⟩, h⟩ := snoc_of (fun h => hA ⟨rfl, h⟩ : sl ≠ [])
          exact .inr ⟨rfl, l0, k, a, h⟩
      clear hA
      by_cases hlt : si < txt.size
      · obtain ⟨x, hx, hrule⟩ := HByte.out si hlt
        obtain ⟨X, hX⟩ : ∃ X : Int, (x.toNat : Int) = X := ⟨_, rfl⟩
        rw [hX] at hrule
        have HX := Lib.hid hx
        have HXi := Lib.hid hX
        have hne : ((si : Int) == (txt.size : Int)) = false := by simp; omega
        have h0i : ¬ txt.size ≤ si := by omega
        clear hx hX
        rcases hcase with rfl | ⟨rfl, l0, k, a, rfl⟩
        · by_cases h40 : X = 40
          · have h40x : x = 40 := u8_is.2 (by rw [HXi.out, h40]; rfl)
            have hs : stepR t ⟨sl, true, si, sm, sp, so⟩ = .inl ⟨sl ++ [(0, sp)], true, si + 1, sm, sp, so⟩ := by
              unfold stepR
              simp [HX.out, h40x, HTl.out, h0i]
            have HRun := Lib.hid (HS.out.run.to_next hs)
            have hX40 : (X == 40) = true := by simp [h40]
            clear hs h40x h40 hC1
            have hml : (sl.map nI).length = sl.length := by simp
            have HML := Lib.hid hml
            clear hml
            go_wp2_with ((with_reducible refine gate_builtin (b := .append) (xs := #[.tmp 69, .tmp 72]) rfl ?_); at_builtin; go_loud (refine Kd.R_append K2 (w0 := w) w.heap.size rfl (.tmp 69) (.tmp 72) 74 76 (.agg #[.int .i64 0, .int .i64 0]) 16 rfl Tryd.underlying74 infoOp rfl (by decide) (by omega) (.slice A1 sl.length c1) (sl.map nI) ((0 : Int), (sp : Int)) [.int .i64 0, .int .i64 (sp : Int)] (fun _ => True) (fun _ => False) rfl rfl ⟨[.int .i64 0], [.int .i64 (sp : Int)], rfl, rfl, rfl⟩ (fun _ hk => hk.elim) (fun _ _ => trivial) HS.out.two.a HS.out.two.bel HS.out.two.bel.size (by rw [HML.out]; omega) ?_); intro v1 w1 ho hb hg hat; (have HT1 := Lib.hid (HS.out.two.putA rfl ho hb hg hat); clear ho hb hg hat))
            have HN : Hid (RdSt w w1 t R v1 (.slice A2 so.length c2) ⟨sl ++ [(0, sp)], true, si + 1, sm, sp, so⟩) := Lib.hid (by
              refine ⟨by rw [List.map_append]; exact HT1.out, HRun.out, fun y hy => ?_, ?_, ?_, ?_, ?_, ?_⟩
              · rcases List.mem_append.1 hy with h | h
                · have := HS.out.st y h
                  exact ⟨this.1, Nat.le_succ_of_le this.2⟩
                · rw [List.mem_singleton.1 h]
                  exact ⟨Nat.zero_le 1, Nat.le_succ_of_le hbp⟩
              · show si + 1 ≤ t.length
                rw [HTl.out]; omega
              · exact Nat.le_succ_of_le hbp
              · exact Nat.le_succ_of_le hbm
              · show (sl ++ [(0, sp)]).length ≤ si + 1
                simp; omega
              · exact Nat.le_succ_of_le hbo)
            go_roundw
            case rel => exact ⟨_, true, si + 1, sm, sp, so, _, _, rfl, by go_num, rfl, rfl, by omega, rfl, rfl, HN⟩
            case measure => simp [intOf]; omega
          · have hX40 : (X == 40) = false := by simp [h40]
            have h40x : ¬ t[si]? = some 40 := by
              rw [HX.out]
              intro h
              injection h with h
              exact h40 (by rw [← HXi.out, h]; rfl)
            obtain ⟨ds, hds⟩ : ∃ ds, Lib.decDigits sm = ds := ⟨_, rfl⟩
            have HRt : Hid ((matchF t si ds).1 = true → Run t ⟨sl, false, (matchF t si ds).2, sm + 1, sp + 1, so⟩ R) := Lib.hid (fun h => HS.out.run.to_next (by
              unfold stepR
              simp [h40x, HTl.out, h0i, hds, h]))
            have HRf : Hid ((matchF t si ds).1 = false → R = .bad (matchF t si ds).2) := Lib.hid (fun h => HS.out.run.to_stop (by
              unfold stepR
              simp [h40x, HTl.out, h0i, hds, h]))
            have HItoa := Lib.hid (itoa_calls sm (by omega) wo (HP.out.below HS.out.two.bel))
            obtain ⟨D, hD⟩ : ∃ D, decB sm = D := ⟨_, rfl⟩
            have hDz : D.size ≤ 7 := by rw [← hD]; exact decB_size (k := 6) (by omega)
            have hDl : D.data.toList = ds := by rw [← hD, ← hds]; rfl
            have hDp : 0 < D.size := by
              have := decDigits_pos sm
              rw [hds, ← hDl, Array.length_toList] at this
              exact this
            rw [hD] at HItoa
            have HDl := Lib.hid hDl
            have HDs := Lib.hid hds
            have HM0 : Hid (matchF t si ds = matchF t (si + 0) (ds.drop 0)) := Lib.hid (by simp)
            clear h40 h40x hds hD hDl hC1
            go_wp2_with (go_at_call 44; refine HItoa.out.mono ?_; rintro e w1 ⟨rfl, hb⟩; have HT1 := Lib.hid (HS.out.two.below hb); clear hb)
            go_loopw [82] (fun x wr => ∃ k : Nat, x = .int .i64 k ∧ k ≤ D.size ∧ si + k ≤ txt.size ∧ Hid (∃ d, wr = w1.drewN d) ∧ Hid (matchF t si ds = matchF t (si + k) (ds.drop k))) (fun x _ => D.size - (intOf x).toNat)
            case atStart => exact ⟨0, rfl, by omega, by omega, Lib.hid ⟨0, rfl⟩, HM0⟩
            case round =>
              obtain ⟨k, rfl, hk, hik, HW, HM⟩ := hrel
              by_cases hkl : k < D.size
              · obtain ⟨b, hb⟩ : ∃ b, Lib.hasPrefix (txt.extract (si + k) txt.size).data.toList (D.extract k (k + 1)).data.toList = b := ⟨_, rfl⟩
                have HPf : Hid (∀ W, Quiet 47 #[.string (txt.extract (si + k) txt.size), .string (D.extract k (k + 1))] W (.bool b)) := Lib.hid (fun W => by
                  rw [← hb]; exact (Tryd.strings_HasPrefix _ _ W).mono (fun e w' h => ⟨h.1, 0, h.2⟩))
                have hBt := (hp_step (s := txt) (i := si + k) hkl).symm.trans hb
                rw [HT.out, HDl.out] at hBt
                have HBt := Lib.hid hBt
                clear hb hBt
                have hs1 : IntKind.i64.wrap ((si : Int) + (k : Int)) = (si : Int) + (k : Int) := IntWalk.i64_in _ (by omega)
                have hs2 : IntKind.i64.wrap ((k : Int) + 1) = (k : Int) + 1 := IntWalk.i64_in _ (by omega)
                have hs3 : min ((si : Int) + (k : Int)) (txt.size : Int) = (si : Int) + (k : Int) := Int.min_eq_left (by omega)
                have hs4 : ((si : Int) + (k : Int)).toNat = si + k := by omega
                have hs5 : ((k : Int) + 1).toNat = k + 1 := by omega
                have hs6 : (k : Int) + 1 ≤ (D.size : Int) := by omega
                have hs7 : (0 : Int) ≤ (k : Int) := by omega
                have hs8 : (k : Int) ≤ (k : Int) + 1 := by omega
                have hs9 : (0 : Int) ≤ (k : Int) + 1 := by omega
                have hs10 : (si : Int) + (k : Int) ≤ (txt.size : Int) := by omega
                have hs11 : (0 : Int) ≤ (si : Int) + (k : Int) := by omega
                go_upto_region 24 with (fail)
                go_quiet ((go_at_call 47; exact Calls.quiet_of (HPf.out _)))
                cases b with
                | true =>
                  have hb1 := of_decide_eq_true HBt.out
                  have hkd : k < ds.length := by rw [← HDl.out, Array.length_toList]; exact hkl
                  have hsl : si + k < t.length := by rw [List.getElem?_eq_getElem hkd] at hb1; exact some_lt hb1
                  rw [HTl.out] at hsl
                  have HM2 : Hid (matchF t si ds = matchF t (si + (k + 1)) (ds.drop (k + 1))) := Lib.hid (by
                    rw [HM.out, List.drop_eq_getElem_cons hkd, matchF, if_pos (by rw [hb1, List.getElem?_eq_getElem hkd])]
                    rfl)
                  clear hs1 hs2 hs3 hs4 hs5 hs6 hs7 hs8 hs9 hs10 hs11 hb1
                  go_wp2
                  go_roundw
                  case rel => exact ⟨k + 1, by go_num, by omega, by omega, Lib.hid (by obtain ⟨d, e⟩ := HW.out; exact ⟨_, by rw [e, World.drewN_drewN]⟩), HM2⟩
                  case measure => simp [intOf]; omega
                | false =>
                  have hb1 := of_decide_eq_false HBt.out
                  have hkd : k < ds.length := by rw [← HDl.out, Array.length_toList]; exact hkl
                  have hm : matchF t si ds = (false, si + k) := by
                    rw [HM.out, List.drop_eq_getElem_cons hkd, matchF, if_neg (by rw [List.getElem?_eq_getElem hkd] at hb1; exact hb1)]
                  have hbw : Below w.heap.size w (wr.drewN nq) := by
                    obtain ⟨d, e⟩ := HW.out
                    rw [e]
                    exact pw_below_drewN (pw_below_drewN HT1.out.bel _) _
                  have hr : R = .bad (si + k) := by
                    have := HRf.out (by rw [hm])
                    rw [hm] at this
                    exact this
                  have HCl := HWr.out (si + k) (wr.drewN nq) hbw hr
                  rw [show ((si + k : Nat) : Int) = (si : Int) + (k : Int) by omega] at HCl
                  have HCl := Lib.hid HCl
                  clear hb1 hm hbw hr hkd
                  go_wp2_with (go_at_call 46; refine HCl.out.mono ?_; rintro e w2 ⟨pb, rfl, hp⟩; have HPs := Lib.hid hp; clear hp)
                  go_ret3
                  exact HPs.out
              · obtain rfl : k = D.size := by omega
                have hm : matchF t si ds = (true, si + D.size) := by
                  rw [HM.out, List.drop_of_length_le (by rw [← HDl.out, Array.length_toList]; exact Nat.le_refl _), matchF]
                have hrun : Run t ⟨sl, false, si + D.size, sm + 1, sp + 1, so⟩ R := by
                  have := HRt.out (by rw [hm])
                  rw [hm] at this
                  exact this
                have hbw : Below w1.heap.size w1 wr := by
                  obtain ⟨d, e⟩ := HW.out
                  rw [e]
                  exact pw_below_drewN (Below.refl _ _) _
                have HN : Hid (RdSt w wr t R (.slice A1 sl.length c1) (.slice A2 so.length c2) ⟨sl, false, si + D.size, sm + 1, sp + 1, so⟩) := Lib.hid (by
                  refine ⟨HT1.out.below hbw, hrun, fun y hy => ?_, ?_, ?_, ?_, ?_, ?_⟩
                  · have := HS.out.st y hy
                    exact ⟨this.1, Nat.le_trans this.2 (Nat.le_add_right _ _)⟩
                  · show si + D.size ≤ t.length
                    rw [HTl.out]; exact hik
                  · show sp + 1 ≤ si + D.size
                    omega
                  · show sm + 1 ≤ si + D.size
                    omega
                  · exact Nat.le_trans hbl (Nat.le_add_right _ _)
                  · exact Nat.le_trans hbo (Nat.le_add_right _ _))
                clear hm hrun hbw
                go_wp2
                go_roundw
                case rel => exact ⟨sl, false, si + D.size, sm + 1, sp + 1, so, _, _, by go_num, by go_num, by go_num, rfl, hik, rfl, rfl, HN⟩
                case measure => simp [intOf]; omega
        · obtain ⟨q, hq⟩ : ∃ q, l0.length = q := ⟨_, rfl⟩
          have hlen : (l0 ++ [(k, a)]).length = q + 1 := by simp [hq]
          have hst := HS.out.st (k, a) (by simp)
          have hk1 : k ≤ 1 := hst.1
          have hasi : a ≤ si := hst.2
          rw [hlen] at hc1 hbl
          obtain ⟨ad, y0, y1, rfl, hy0, hy1, HY⟩ := at_K2 hC1 q (by simp [hq])
          obtain ⟨rfl, rfl⟩ : y0 = (k : Int) ∧ y1 = (a : Int) := by
            have := HY.out
            rw [List.getD_eq_getElem?_getD, List.map_append, List.getElem?_append_right (by simp [hq])] at this
            simp [hq, nI] at this
            exact ⟨this.1.symm, this.2.symm⟩
          have hRl := HS.out.two.a
          rw [hlen] at hRl
          have HRl := Lib.hid hRl
          have HLen := Lib.hid hlen
          have HQ := Lib.hid hq
          have hl0 : ((q : Int) + 1 == 0) = false := by simp; omega
          have hix : (q : Int) + 1 - 1 = (q : Int) := by omega
          rw [hlen]
          clear hlen hq hst hC1 hRl HY
          have HDef : Hid ((¬ (k = 0 ∧ x = 32)) → (¬ (k = 1 ∧ x = 41)) → R = .bad si) := Lib.hid (fun h1 h2 => HS.out.run.to_stop (by
            unfold stepR
            simp [HX.out, HTl.out, h0i]
            rw [if_neg (by simpa using h1), if_neg (by simpa using h2)]))
          have hX32 : x = 32 ↔ X = 32 := by rw [u8_is, HXi.out]; exact Iff.rfl
          have hX41 : x = 41 ↔ X = 41 := by rw [u8_is, HXi.out]; exact Iff.rfl
          by_cases d1 : k = 0 ∧ X = 32
          · obtain ⟨rfl, rfl⟩ := d1
            have hs : stepR t ⟨l0 ++ [(0, a)], false, si, sm, sp, so⟩ = .inl ⟨l0 ++ [(1, a)], true, si + 1, sm, sp, so⟩ := by
              unfold stepR
              simp [HX.out, hX32.2 rfl, HTl.out, h0i]
            have HRun := Lib.hid (HS.out.run.to_next hs)
            clear hs hX32 hX41
            obtain ⟨g, rfl⟩ := R_head HRl.out
            rw [add_plain] at hy0 hy1
            have HCC : Hid (∀ (j : Nat) (u : Value), [Value.int .i64 0, Value.int .i64 (a : Int)][j]? = some u → wo.cell? ⟨g, (q : Int).toNat * K2.sz + j, none⟩ = some u) := Lib.hid (fun j u hu => by
              rw [Int.toNat_natCast, show K2.sz = 2 from rfl]
              match j, hu with
              | 0, hu => simp at hu; subst hu; exact hy0
              | 1, hu => simp at hu; subst hu; exact hy1
              | j + 2, hu => simp at hu)
            go_upto_region 32 with (fail)
            clear hy0 hy1
            go_wp2_with (refine gate_ (.store 3 (.tmp 138) (.const (.int .i64 1))) rfl ?_; go_loud (refine Kd.R_store K2 (w0 := w) w.heap.size rfl rfl 3 (.tmp 138) (.const (.int .i64 1)) rfl 76 (g := g) (n := q + 1) (cap := c1) (o' := q * 2) (q : Int) 0 ((l0 ++ [(0, a)]).map nI) (1, (a : Int)) (.int .i64 1) [.int .i64 1] [.int .i64 0, .int .i64 (a : Int)] (fun _ => True) (fun _ => False) rfl rfl rfl rfl size1i (by simp [Value.oneCell']) HRl.out (by omega) (by omega) rfl HCC.out (by decide) ⟨[.int .i64 1], [.int .i64 (a : Int)], rfl, rfl, rfl⟩ (fun _ hk => hk.elim) HS.out.two.bel ?_); intro w1 ho hb hg; have HT1 := Lib.hid (HS.out.two.putA rfl ho hb (by rw [HLen.out]; exact hg) (.inl (by rw [HLen.out]))); clear ho hb hg)
            have HN : Hid (RdSt w w1 t R (.slice (some ⟨g, 0, none⟩) (q + 1) c1) (.slice A2 so.length c2) ⟨l0 ++ [(1, a)], true, si + 1, sm, sp, so⟩) := Lib.hid (by
              refine ⟨?_, HRun.out, fun y hy => ?_, ?_, ?_, ?_, ?_, ?_⟩
              · have h := HT1.out
                rw [Int.toNat_natCast, List.map_append, List.set_append_right _ _ (by simp [HQ.out]), List.length_map, HQ.out, Nat.sub_self] at h
                rw [List.map_append]
                exact h
              · rcases List.mem_append.1 hy with h | h
                · have := HS.out.st y (List.mem_append_left _ h)
                  exact ⟨this.1, Nat.le_succ_of_le this.2⟩
                · rw [List.mem_singleton.1 h]
                  exact ⟨Nat.le_refl 1, Nat.le_succ_of_le hasi⟩
              · show si + 1 ≤ t.length
                rw [HTl.out]; omega
              · exact Nat.le_succ_of_le hbp
              · exact Nat.le_succ_of_le hbm
              · show (l0 ++ [(1, a)]).length ≤ si + 1
                simp [HQ.out]; omega
              · exact Nat.le_succ_of_le hbo)
            go_roundw
            case rel => exact ⟨l0 ++ [(1, a)], true, si + 1, sm, sp, so, _, _, rfl, by go_num, rfl, rfl, by omega, rfl, rfl, HN⟩
            case measure => simp [intOf]; omega
          · by_cases d2 : k = 1 ∧ X = 41
            · obtain ⟨rfl, rfl⟩ := d2
              have hs : stepR t ⟨l0 ++ [(1, a)], false, si, sm, sp, so⟩ = .inl ⟨l0, false, si + 1, sm, a + 1, so ++ [a]⟩ := by
                unfold stepR
                simp [HX.out, hX41.2 rfl, HTl.out, h0i]
              have HRun := Lib.hid (HS.out.run.to_next hs)
              clear hs hX32 hX41 d1
              have hy32 : ((41 : Int) == 32) = false := by decide
              go_upto_region 37 with (fail)
              obtain ⟨w1, hw1⟩ : ∃ w1, wo.alloc (.cells #[.int .i64 1, .int .i64 (a : Int)] 76) = w1 := ⟨_, rfl⟩
              rw [hw1]
              have hb1 : Below wo.heap.size wo w1 := by rw [← hw1]; exact below_alloc (Below.refl _ _) _
              have q1 : w1.cell? ⟨wo.heap.size, 1, none⟩ = some (.int .i64 (a : Int)) := by rw [← hw1]; simp [go_sem]
              have hT1 := HS.out.two.below hb1
              have hA1 := Kd.R_take (m := q) hT1.a (by simp [HQ.out])
              rw [List.map_append, List.take_left' (by simp [HQ.out])] at hA1
              have hT2 : TwoR K2 76 (Kd.int .i64) 3 w w1 (.slice (some ad) q c1) (.slice A2 so.length c2) (l0.map nI) (oI so) := ⟨hA1, hT1.b, hT1.dj, hT1.bel⟩
              have HT2 := Lib.hid hT2
              have hol : (oI so).length = so.length := by simp [oI]
              have HOl := Lib.hid hol
              clear hw1 hb1 hT1 hA1 hT2 hy0 hy1 hol
              go_upto_region 39 with ((with_reducible refine gate_builtin (b := .append) (xs := #[.tmp 165, .tmp 168]) rfl ?_); at_builtin; go_loud (refine Kd.R_append (Kd.int .i64) (w0 := w) w.heap.size rfl (.tmp 165) (.tmp 168) 22 3 (.int .i64 0) 8 rfl Tryd.underlying22 infoInt rfl (by decide) (by omega) (.slice A2 so.length c2) (oI so) ((a : Int)) [.int .i64 (a : Int)] (fun _ => True) (fun _ => False) rfl rfl rfl (fun _ hk => hk.elim) (fun _ _ => trivial) HT2.out.b HT2.out.bel HT2.out.bel.size (by rw [HOl.out]; omega) ?_); intro v3 w3 ho hb hg hat; (have HT3 := Lib.hid (HT2.out.putB rfl ho hb hg hat); have q3 : w3.cell? ⟨wo.heap.size, 1, none⟩ = some (.int .i64 (a : Int)) := cell_grown hg q1 (by have := (RC.of_R HS.out.two.b).lt; intro h; exact Nat.lt_irrefl _ (this _ h.symm).2); clear ho hb hg hat q1))
              have HN : Hid (RdSt w w3 t R (.slice (some ad) q c1) v3 ⟨l0, false, si + 1, sm, a + 1, so ++ [a]⟩) := Lib.hid (by
                refine ⟨?_, HRun.out, fun y hy => ?_, ?_, ?_, ?_, ?_, ?_⟩
                · have h := HT3.out
                  unfold oI at h ⊢
                  rw [List.map_append]
                  exact h
                · have := HS.out.st y (List.mem_append_left _ hy)
                  exact ⟨this.1, Nat.le_succ_of_le this.2⟩
                · show si + 1 ≤ t.length
                  rw [HTl.out]; omega
                · show a + 1 ≤ si + 1
                  omega
                · exact Nat.le_succ_of_le hbm
                · show l0.length ≤ si + 1
                  have := HQ.out; omega
                · show (so ++ [a]).length ≤ si + 1
                  simp; omega)
              go_wp2
              go_roundw
              case rel => exact ⟨l0, false, si + 1, sm, a + 1, so ++ [a], _, _, rfl, by go_num, by go_num, rfl, by omega, rfl, rfl, HN⟩
              case measure => simp [intOf]; omega
            · have hr := HDef.out (fun h => d1 ⟨h.1, hX32.1 h.2⟩) (fun h => d2 ⟨h.1, hX41.1 h.2⟩)
              have HCl := Lib.hid (HWr.out si wo HS.out.two.bel hr)
              clear hr hX32 hX41
              have hk01 : k = 0 ∨ k = 1 := by omega
              have htri : (X = 32 ∧ k = 1) ∨ (X = 41 ∧ k = 0) ∨ (X ≠ 32 ∧ X ≠ 41) := by omega
              clear d1 d2 hk01
              rcases htri with ⟨rfl, rfl⟩ | ⟨rfl, rfl⟩ | ⟨h1, h2⟩
              · go_wp2_with (go_at_call 46; refine HCl.out.mono ?_; rintro e w1 ⟨pb, rfl, hp⟩; have HPs := Lib.hid hp; clear hp)
                go_ret3
                exact HPs.out
              · go_wp2_with (go_at_call 46; refine HCl.out.mono ?_; rintro e w1 ⟨pb, rfl, hp⟩; have HPs := Lib.hid hp; clear hp)
                go_ret3
                exact HPs.out
              · have hb1 : (X == 32) = false := by simp [h1]
                have hb2 : (X == 41) = false := by simp [h2]
                clear h1 h2
                go_wp2_with (go_at_call 46; refine HCl.out.mono ?_; rintro e w1 ⟨pb, rfl, hp⟩; have HPs := Lib.hid hp; clear hp)
                go_ret3
                exact HPs.out
      · obtain rfl : si = txt.size := by omega
        rcases hcase with rfl | ⟨rfl, l0, k, a, rfl⟩
        · have hr : R = .bad txt.size := HS.out.run.to_stop (by unfold stepR; simp [HTl.out])
          have HCl := Lib.hid (HWr.out txt.size wo HS.out.two.bel hr)
          clear hr
          go_wp2_with (go_at_call 46; refine HCl.out.mono ?_; rintro e w1 ⟨pb, rfl, hp⟩; have HPs := Lib.hid hp; clear hp)
          go_ret3
          exact HPs.out
        · have hr : R = .bad txt.size := HS.out.run.to_stop (by unfold stepR; simp [HTl.out])
          have HCl := Lib.hid (HWr.out txt.size wo HS.out.two.bel hr)
          have hl0 : (((l0 ++ [(k, a)]).length : Int) == 0) = false := by simp; omega
          obtain ⟨n, hn⟩ : ∃ n, (l0 ++ [(k, a)]).length = n := ⟨_, rfl⟩
          rw [hn] at hl0 ⊢
          clear hr hn
          go_wp2_with (go_at_call 46; refine HCl.out.mono ?_; rintro e w1 ⟨pb, rfl, hp⟩; have HPs := Lib.hid hp; clear hp)
          go_ret3
          exact HPs.out
end Go.Proofs.YtcikcnkhcfhomaaDoor.Hand
/- plan.Read by what it answers. -/
namespace Go.Proofs.YtcikcnkhcfhomaaDoor.Hand
open Go.RowKit Go.Proofs.YtcikcnkhcfhomaaDoorW.PrintWords Go.Proofs.YtcikcnkhcfhomaaDoorW.PrintMore Go.Proofs.YtcikcnkhcfhomaaDoor.Math

set_option maxRecDepth 100000 in
theorem read_calls (txt : ByteArray) (w : World) (Ae : Nat → Addr) (hE : ErrsL [0, 1] w Ae) (hP : Pow10 w) :
    Calls Tryd.prog 30 #[.string txt] w fun e w' => ∃ v ev, e = .returned (.tuple #[.int .i64 (rdM txt : Nat), v, ev]) ∧ RC (Kd.int .i64) 3 w' w.heap.size v (rdO txt) ∧ ErrV w' Ae ev (rdE txt) (rdQ txt) ∧ Below w.heap.size w w' := by
  by_cases hz : 1048576 < txt.size
  · have e0 := hE.cells 0 (by decide)
    simp only [GE, List.getD_cons_zero] at e0
    have hr : rdR txt = none := by unfold rdR; rw [if_pos hz]
    have HN : Hid (rdM txt = 0 ∧ rdO txt = [] ∧ rdE txt = 1 ∧ rdQ txt = -1) := Lib.hid ⟨by unfold rdM; rw [hr], by unfold rdO; rw [hr], by unfold rdE; rw [hr], by unfold rdQ; rw [hr]⟩
    have hzI : (1048576 : Int) < (txt.size : Int) := by omega
    clear hE hr hz
    go_enter Tryd.func30, Tryd.ntmps30
    go_upto_region 2 with (fail)
    go_quiet (fail)
    go_wp2
    go_ret3
    obtain ⟨h1, h2, h3, h4⟩ := HN.out
    exact ⟨_, _, by rw [h1]; rfl, by rw [h2]; exact RC.nil, by rw [h3, h4]; exact .sent 0 (by decide), pw_below_drewN (Below.refl _ _) _⟩
  · have hr : rdR txt = some (readR txt.data.toList) := by unfold rdR; rw [if_neg hz]
    refine (read_loop txt w Ae (hE.sub (by decide)) hP (by omega)).mono ?_
    rintro e w' ⟨h, hb⟩
    cases hR : readR txt.data.toList with
    | ok m o =>
      rw [hR] at h hr
      obtain ⟨v, rfl, hv⟩ := h
      exact ⟨v, _, by unfold rdM; rw [hr], by unfold rdO; rw [hr]; exact hv, by unfold rdE rdQ; rw [hr]; exact .none, hb⟩
    | bad i =>
      rw [hR] at h hr
      obtain ⟨pb, rfl, c0, c1⟩ := h
      exact ⟨_, _, by unfold rdM; rw [hr]; rfl, by unfold rdO; rw [hr]; exact RC.nil, by unfold rdE rdQ; rw [hr]; exact .place 1 (by decide) pb 0 (i : Int) c0 c1, hb⟩
end Go.Proofs.YtcikcnkhcfhomaaDoor.Hand
/- Contracts: the document's reader: byte, part; its Read. -/
namespace Go.Proofs.YtcikcnkhcfhomaaDoor.Hand
open Go.RowKit Go.Proofs.YtcikcnkhcfhomaaDoorW.PrintWords Go.Proofs.YtcikcnkhcfhomaaDoorW.PrintMore Go.Proofs.YtcikcnkhcfhomaaDoor.Math

/-- The reader's memory. -/
structure RdAt (w0 w : World) (b : Nat) (txt : ByteArray) (i m : Nat) (v : Value) (o : List Nat) : Prop where
  c0 : w.cell? ⟨b, 0, none⟩ = some (.string txt)
  c1 : w.cell? ⟨b, 1, none⟩ = some (.int .i64 (i : Int))
  c2 : w.cell? ⟨b, 2, none⟩ = some (.int .i64 (m : Int))
  c3 : w.cell? ⟨b, 3, none⟩ = some v
  f : ∀ k, w.frozen? ⟨b, k, none⟩ = false
  own : (Kd.int .i64).R 3 w w0.heap.size (fun k => k ≠ b) v (oI o)
  bel : Below w0.heap.size w0 w
  hb : w0.heap.size ≤ b
section
variable {w0 w w1 : World} {b i m : Nat} {txt : ByteArray} {v v1 : Value} {o o1 : List Nat}
theorem RdAt.lt (h : RdAt w0 w b txt i m v o) : b < w.heap.size := World.block_lt_of_cell? w _ h.c0
theorem RdAt.below (h : RdAt w0 w b txt i m v o) (hb : Below w.heap.size w w1) : RdAt w0 w1 b txt i m v o := by
  have hl := h.lt
  have e := hb.block b hl
  exact ⟨(World.cell?_of_block (a := ⟨b, 0, none⟩) e).trans h.c0, (World.cell?_of_block (a := ⟨b, 1, none⟩) e).trans h.c1, (World.cell?_of_block (a := ⟨b, 2, none⟩) e).trans h.c2, (World.cell?_of_block (a := ⟨b, 3, none⟩) e).trans h.c3,
    fun k => (World.frozen?_of_block (a := ⟨b, k, none⟩) e).trans (h.f k), Kd.R_below h.own hb, below_next h.bel hb, h.hb⟩
theorem RdAt.drewN (h : RdAt w0 w b txt i m v o) (n : Nat) : RdAt w0 (w.drewN n) b txt i m v o := h.below (pw_below_drewN (Below.refl _ _) n)
theorem RdAt.set1 (h : RdAt w0 w b txt i m v o) (x : Nat) : RdAt w0 (w.setCell ⟨b, 1, none⟩ (.int .i64 (x : Int))) b txt x m v o := by
  have far : ∀ k, k ≠ 1 → (w.setCell ⟨b, 1, none⟩ (.int .i64 (x : Int))).cell? ⟨b, k, none⟩ = w.cell? ⟨b, k, none⟩ := fun k hk => World.cell?_setCell_other _ _ _ _ (by intro e; injection e with _ e; exact hk e.symm)
  exact ⟨(far 0 (by decide)).trans h.c0, World.cell?_setCell_same _ _ _ h.c1, (far 2 (by decide)).trans h.c2, (far 3 (by decide)).trans h.c3, fun k => by rw [World.frozen?_setCell]; exact h.f k, Kd.R_far h.own (fun k hk => hk) _, h.bel.setCell h.hb _, h.hb⟩
theorem RdAt.set2 (h : RdAt w0 w b txt i m v o) (x : Nat) : RdAt w0 (w.setCell ⟨b, 2, none⟩ (.int .i64 (x : Int))) b txt i x v o := by
  have far : ∀ k, k ≠ 2 → (w.setCell ⟨b, 2, none⟩ (.int .i64 (x : Int))).cell? ⟨b, k, none⟩ = w.cell? ⟨b, k, none⟩ := fun k hk => World.cell?_setCell_other _ _ _ _ (by intro e; injection e with _ e; exact hk e.symm)
  exact ⟨(far 0 (by decide)).trans h.c0, (far 1 (by decide)).trans h.c1, World.cell?_setCell_same _ _ _ h.c2, (far 3 (by decide)).trans h.c3, fun k => by rw [World.frozen?_setCell]; exact h.f k, Kd.R_far h.own (fun k hk => hk) _, h.bel.setCell h.hb _, h.hb⟩
/-- The order grows, and its variable is written. -/
theorem RdAt.set3 (h : RdAt w0 w b txt i m v o) (ho : (Kd.int .i64).R 3 w1 w0.heap.size (fun k => k ≠ b) v1 (oI o1)) (hbl : Below w0.heap.size w0 w1) (hg : w.grownBy w1 v.ownBlock) : RdAt w0 (w1.setCell ⟨b, 3, none⟩ v1) b txt i m v1 o1 := by
  have hne : some b ≠ v.ownBlock := fun e => h.own.1 b e.symm rfl
  have e := hg.block b h.lt hne
  have old : ∀ k u, w.cell? ⟨b, k, none⟩ = some u → w1.cell? ⟨b, k, none⟩ = some u := fun k u hu => (World.cell?_of_block (a := ⟨b, k, none⟩) e).trans hu
  have far : ∀ k, k ≠ 3 → (w1.setCell ⟨b, 3, none⟩ v1).cell? ⟨b, k, none⟩ = w1.cell? ⟨b, k, none⟩ := fun k hk => World.cell?_setCell_other _ _ _ _ (by intro e; injection e with _ e; exact hk e.symm)
  exact ⟨(far 0 (by decide)).trans (old _ _ h.c0), (far 1 (by decide)).trans (old _ _ h.c1), (far 2 (by decide)).trans (old _ _ h.c2), World.cell?_setCell_same _ _ _ (old _ _ h.c3), fun k => by rw [World.frozen?_setCell]; exact (World.frozen?_of_block (a := ⟨b, k, none⟩) e).trans (h.f k), Kd.R_far ho (fun k hk => hk) _, hbl.setCell h.hb _, h.hb⟩
end
/-- What byte leaves. -/
def ByteP (w0 : World) (b : Nat) (txt : ByteArray) (i m : Nat) (v : Value) (o : List Nat) (c : UInt8) (e : Ending) (w' : World) : Prop :=
  e = .returned (.bool (decide (txt.data.toList[i]? = some c))) ∧ RdAt w0 w' b txt (if txt.data.toList[i]? = some c then i + 1 else i) m v o
set_option maxHeartbeats 1000000 in
theorem byte_calls (w0 w : World) (b i m : Nat) (txt : ByteArray) (v : Value) (o : List Nat) (c : UInt8) (h : RdAt w0 w b txt i m v o) (hz : txt.size ≤ 1048576) (hi : i ≤ txt.size) :
    Calls Tryd.prog 56 #[.pointer (some ⟨b, 0, none⟩), .int .u8 (c.toNat : Int)] w (ByteP w0 b txt i m v o c) := by
  have HH := Lib.hid h
  have c0 := h.c0
  have c1 := h.c1
  have f1 := h.f 1
  obtain ⟨C, hC⟩ : ∃ C : Int, (c.toNat : Int) = C := ⟨_, rfl⟩
  rw [hC]
  have HCc := Lib.hid hC
  clear hC h
  by_cases hlt : i < txt.size
  · have hll : i < txt.data.toList.length := by rw [Array.length_toList]; exact hlt
    have hrule : ∀ h : i < txt.size, ((txt[i]'h).toNat : Int) = ((txt.data.toList[i]'hll).toNat : Int) := fun h => rfl
    obtain ⟨x, hx⟩ : ∃ x, txt.data.toList[i]'hll = x := ⟨_, rfl⟩
    rw [hx] at hrule
    obtain ⟨X, hX⟩ : ∃ X : Int, (x.toNat : Int) = X := ⟨_, rfl⟩
    rw [hX] at hrule
    have HXx : Hid (txt.data.toList[i]? = some x) := Lib.hid (by rw [List.getElem?_eq_getElem hll, hx])
    have HXi := Lib.hid hX
    have hlI : decide ((i : Int) < (txt.size : Int)) = true := decide_eq_true (by omega)
    have hlN : decide (i < txt.size) = true := decide_eq_true hlt
    have i0 : (0 : Int) ≤ (i : Int) := by omega
    have i1 : (i : Int) < (txt.size : Int) := by omega
    clear hx hX hll
    by_cases he : X = C
    · subst he
      have HE : Hid (txt.data.toList[i]? = some c) := Lib.hid (by rw [HXx.out, u8_is.2 (HXi.out.trans HCc.out.symm)])
      go_enter Tryd.func56, Tryd.ntmps56
      go_wp2
      go_quiet (fail)
      have HD := Lib.hid (HH.out.drewN nq)
      have c1 := HD.out.c1
      have f1 := HD.out.f 1
      clear hlI hlN
      go_wp2
      go_ret
      exact ⟨by rw [decide_eq_true HE.out]; rfl, by rw [if_pos HE.out]; have := HD.out.set1 (i + 1); rw [show ((i + 1 : Nat) : Int) = (i : Int) + 1 by omega] at this; exact this⟩
    · have hne : (X == C) = false := by simp [he]
      have HE : Hid (¬ txt.data.toList[i]? = some c) := Lib.hid (by
        rw [HXx.out]
        intro h
        injection h with h
        exact he (by rw [← HXi.out, ← HCc.out, h]))
      clear he
      go_enter Tryd.func56, Tryd.ntmps56
      go_wp2
      go_quiet (fail)
      go_wp2
      go_ret
      exact ⟨by rw [decide_eq_false HE.out]; rfl, by rw [if_neg HE.out]; exact HH.out.drewN nq⟩
  · have HE : Hid (¬ txt.data.toList[i]? = some c) := Lib.hid (by rw [List.getElem?_eq_none (by rw [Array.length_toList]; exact Nat.le_of_not_lt hlt)]; simp)
    have hlI : decide ((i : Int) < (txt.size : Int)) = false := by rw [decide_eq_false_iff_not]; omega
    have hlN : decide (i < txt.size) = false := decide_eq_false hlt
    go_enter Tryd.func56, Tryd.ntmps56
    go_wp2
    go_quiet (fail)
    go_wp2
    go_ret
    exact ⟨by rw [decide_eq_false HE.out]; rfl, by rw [if_neg HE.out]; exact HH.out.drewN nq⟩
end Go.Proofs.YtcikcnkhcfhomaaDoor.Hand
