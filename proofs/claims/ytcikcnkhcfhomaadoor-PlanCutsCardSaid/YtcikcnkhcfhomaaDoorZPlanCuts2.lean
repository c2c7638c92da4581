/- The texts that the statement's proof stands on, part 2: XPlText XPlAwake XRcut XPlCutR XKinds XEq XKit XHd XOpens XPlCuts. -/
import Derived.Test.YtcikcnkhcfhomaaDoorZPlanCuts1
import Derived.Test.YtcikcnkhcfhomaaDoorShelf
import Derived.ArgAppend
import Derived.Deep.Slices
import Derived.ChangeSame
import Derived.SizedLaws
import Derived.Lib.SmallJoins
/- Contracts: plan.Text. -/
namespace Go.Proofs.YtcikcnkhcfhomaaDoor.Hand
open Go.RowKit Go.Proofs.YtcikcnkhcfhomaaDoorW.PrintWords Go.Proofs.YtcikcnkhcfhomaaDoorW.PrintMore Go.Proofs.YtcikcnkhcfhomaaDoor.Math

def decB (i : Nat) : ByteArray := ⟨(Lib.decDigits i).toArray⟩
def pB (a b : ByteArray) : ByteArray := (⟨#[40]⟩ : ByteArray) ++ a ++ ⟨#[32]⟩ ++ b ++ ⟨#[41]⟩
/-- The texts after the joins. -/
def txtF : List (Nat × Nat × Nat) → (Nat → ByteArray) → (Nat → ByteArray)
  | [], T => T
  | x :: r, T => txtF r (fun i => if i = x.2.1 then ⟨#[]⟩ else if i = x.1 then pB (T x.1) (T x.2.1) else T i)
def sumS (T : Nat → ByteArray) : Nat → Nat
  | 0 => 0
  | n + 1 => sumS T n + (T n).size
theorem sumS_ge (T : Nat → ByteArray) : ∀ (n i : Nat), i < n → (T i).size ≤ sumS T n
  | n + 1, i, h => by
    rw [sumS]
    rcases Nat.lt_or_ge i n with h1 | h1
    · have := sumS_ge T n i h1; omega
    · obtain rfl : i = n := by omega
      omega
theorem sumS_ext {T U : Nat → ByteArray} : ∀ (n : Nat), (∀ i, i < n → (T i).size = (U i).size) → sumS T n = sumS U n
  | 0, _ => rfl
  | n + 1, h => by rw [sumS, sumS, sumS_ext n (fun i hi => h i (by omega)), h n (by omega)]
theorem sumS_one {T : Nat → ByteArray} {a : Nat} {v : ByteArray} : ∀ (n : Nat), a < n → sumS (fun i => if i = a then v else T i) n + (T a).size = sumS T n + v.size
  | n + 1, h => by
    rw [sumS, sumS]
    rcases Nat.lt_or_ge a n with h1 | h1
    · have := sumS_one (T := T) (v := v) n h1
      rw [if_neg (by omega)]
      omega
    · obtain rfl : a = n := by omega
      rw [if_pos rfl, sumS_ext (T := fun i => if i = a then v else T i) (U := T) a (fun i hi => by simp [show i ≠ a by omega])]
      omega
theorem pB_size (a b : ByteArray) : (pB a b).size = a.size + b.size + 3 := by
  unfold pB
  rw [ByteArray.size_append, ByteArray.size_append, ByteArray.size_append, ByteArray.size_append]
  show 1 + a.size + 1 + b.size + 1 = _
  omega
theorem sumS_join {T : Nat → ByteArray} {n a b : Nat} (ha : a < n) (hb : b < n) (hne : a ≠ b) : sumS (fun i => if i = b then ⟨#[]⟩ else if i = a then pB (T a) (T b) else T i) n = sumS T n + 3 := by
  have h1 := sumS_one (T := fun i => if i = a then pB (T a) (T b) else T i) (a := b) (v := ⟨#[]⟩) n hb
  have h2 := sumS_one (T := T) (a := a) (v := pB (T a) (T b)) n ha
  rw [pB_size] at h2
  rw [if_neg (fun h => hne h.symm)] at h1
  have e : (⟨#[]⟩ : ByteArray).size = 0 := rfl
  rw [e] at h1
  omega
theorem decDigits_len : ∀ (k n : Nat), n < 10 ^ (k + 1) → (Lib.decDigits n).length ≤ k + 1
  | 0, n, h => by
    rw [Lib.decDigits]
    simp at h
    simp [h]
  | k + 1, n, h => by
    rw [Lib.decDigits]
    split
    · simp
    · have := decDigits_len k (n / 10) (by rw [Nat.pow_succ] at h; omega)
      simp
      omega
theorem joinL_mem {m : Nat} : ∀ (o S : List Nat), Starts m S → OrdOk S.length o → ∀ x ∈ joinL m S o, x.1 < x.2.1 ∧ x.2.1 < m
  | [], _, _, _, x, hx => by cases hx
  | k :: r, S, hS, ho, x, hx => by
    have hh := ho.head
    have hl : (S.eraseIdx (k + 1)).length = S.length - 1 := by rw [List.length_eraseIdx, if_pos hh.1]
    rw [joinL, List.mem_cons] at hx
    rcases hx with rfl | hx
    · show S.getD k 0 < S.getD (k + 1) m ∧ S.getD (k + 1) m < m
      rw [getD_at (d := 0) (show k < S.length by omega), getD_at hh.1]
      exact ⟨getElem_lt_of hS.up hh.1 (by omega), hS.lt _ (List.getElem_mem _)⟩
    · exact joinL_mem r _ (hS.erase k) (by rw [hl]; exact hh.2) x hx
theorem infoStr : (Tryd.prog.info? 9).map (fun i => (i.zero, i.size, i.bytes)) = some (some (.string ⟨#[]⟩), 1, 16) := by kernel_rfl
/-- The memory of Text's second loop. -/
def TSt (w1 w : World) (M : Nat) (L : List (Nat × Nat × Nat)) (j : Nat) : Prop :=
  ∃ T : Nat → ByteArray, Row w w1.heap.size M (fun q => .string (T q)) ∧ txtF (L.drop j) T 0 = txtF L decB 0 ∧ sumS T M ≤ 4 * M + 3 * j ∧ Below w1.heap.size w1 w
set_option maxHeartbeats 2000000 in
set_option maxRecDepth 20000 in
theorem text_calls (m : Int) (A : Option Addr) (c : Nat) (o : List Int) (w : World) (Ae : Nat → Addr) (hE : ErrsL [0, 8] w Ae) (hr : Kd.C (Kd.int .i64) w A o.length o) (hm : -9223372036854775808 ≤ m ∧ m ≤ 9223372036854775807) (hl : o.length ≤ 17592186044415)
    (hI : ∀ i : Nat, i < 4096 → (i : Int) < m → ∀ W, Below w.heap.size w W → Calls Tryd.prog 44 #[.int .i64 i] W fun e w' => e = .returned (.string (decB i)) ∧ Below W.heap.size W w') :
    Calls Tryd.prog 27 #[.int .i64 m, .slice A o.length c] w fun e w' => Below w.heap.size w w' ∧ ((∃ k, ordE m o = k + 1 ∧ e = .returned (.tuple #[.string ⟨#[]⟩, .iface 133 (.pointer (some (Ae k)))])) ∨
      (ordE m o = 0 ∧ 4096 < m ∧ e = .returned (.tuple #[.string ⟨#[]⟩, .iface 133 (.pointer (some (Ae 0)))])) ∨
      (ordE m o = 0 ∧ m ≤ 4096 ∧ e = .returned (.tuple #[.string (txtF (joinL m.toNat (List.range m.toNat) (o.map Int.toNat)) decB 0), .nilIface]))) := by
  have HJ := Lib.hid (joins_calls m A c o w Ae hE hr hm hl)
  have HE := Lib.hid hE
  have HI := Lib.hid hI
  clear hr hE hI
  go_enter Tryd.func27, Tryd.ntmps27
  go_wp2_with (fail)
  go_at_call 10
  refine HJ.out.mono ?_
  rintro e w1 ⟨hb1, hcase⟩
  have HB1 := Lib.hid hb1
  clear hb1
  rcases hcase with ⟨k, hk, rfl⟩ | ⟨h0, v, rfl, hv⟩
  · have HK := Lib.hid hk
    clear hk
    go_wp2
    go_ret2
    exact ⟨HB1.out, .inl ⟨k, HK.out, rfl⟩⟩
  · by_cases hbig : 4096 < m
    · have e0 := (HE.out.below HB1.out).cells 0 (by decide)
      simp only [GE, List.getD_cons_zero] at e0
      have H0 := Lib.hid h0
      clear h0 hv
      go_upto_region 5 with (fail)
      go_quiet (fail)
      go_wp2
      go_ret2
      exact ⟨pw_below_drewN HB1.out _, .inr (.inl ⟨H0.out, hbig, rfl⟩)⟩
    · obtain ⟨hm1, -, -, hok⟩ := ordE_ok h0
      obtain ⟨M, rfl⟩ : ∃ M : Nat, m = (M : Int) := ⟨m.toNat, by omega⟩
      rw [Int.toNat_natCast] at hv hok
      have HMem : Hid (∀ x ∈ joinL M (List.range M) (o.map Int.toNat), x.1 < x.2.1 ∧ x.2.1 < M) := Lib.hid (joinL_mem _ _ (Starts.range M) (by rw [List.length_range]; exact hok))
      have HLn : Hid ((joinL M (List.range M) (o.map Int.toNat)).length < M) := Lib.hid (by rw [joinL_length]; have := hok.1; omega)
      obtain ⟨L, HLd⟩ : ∃ L, Hid (joinL M (List.range M) (o.map Int.toNat) = L) := ⟨_, Lib.hid rfl⟩
      rw [HLd.out] at hv HMem HLn
      obtain ⟨B, d, rfl⟩ := Kd.R_slice hv
      have HV := Lib.hid (Kd.R_reads' hv).2.2
      have hcap := (Kd.R_reads' hv).2.1
      simp only [List.length_map] at HV hcap
      rw [List.length_map]
      have hM : M ≤ 4096 := by omega
      have hM1 : 1 ≤ M := by omega
      have hL4 : L.length < 4096 := by have := HLn.out; omega
      have H0 := Lib.hid h0
      clear h0 hv hok
      have hmk : ∀ W : World, (Instr.makeSlice 68 (.int .i64 (M : Int)) (.int .i64 (M : Int))).run Tryd.prog W = .ok (.slice (some ⟨W.heap.size, 0, none⟩) M M) (W.alloc (.cells (madeCells #[.string ⟨#[]⟩] M) 9)) := fun W =>
        print_make_of (P := Tryd.prog) 68 9 (.string ⟨#[]⟩) 16 Tryd.underlying68 infoStr rfl (by decide) M (by omega) W
      obtain ⟨w2, hw2⟩ : ∃ w2, w1.alloc (.cells (madeCells #[.string ⟨#[]⟩] M) 9) = w2 := ⟨_, rfl⟩
      have hb2 : Below w1.heap.size w1 w2 := by rw [← hw2]; exact below_alloc (Below.refl _ _) _
      have hrow2 : Row w2 w1.heap.size M (fun _ => .string ⟨#[]⟩) := by rw [← hw2]; exact Row.made w1 _ _ _
      have HB2 := Lib.hid hb2
      have HRow2 := Lib.hid hrow2
      clear hb2 hrow2
      go_wp2
      clear hw2 hmk
      go_loopw [27] (fun x wr => ∃ i : Nat, x = .int .i64 i ∧ i ≤ M ∧ Hid (∃ T : Nat → ByteArray, Row wr w1.heap.size M (fun q => .string (T q)) ∧ (∀ q, q < i → T q = decB q) ∧ Below w1.heap.size w1 wr)) (fun x _ => M - (intOf x).toNat)
      case atStart => exact ⟨0, rfl, by omega, Lib.hid ⟨_, HRow2.out, fun q h => by omega, HB2.out⟩⟩
      case round =>
        obtain ⟨i, rfl, hi, HS⟩ := hrel
        obtain ⟨T, k1, k2, k3⟩ := HS.out
        have HB3 := Lib.hid k3
        by_cases hlt : i < M
        · have HR3 := Lib.hid k1
          have HT3 := Lib.hid k2
          have HCl := Lib.hid (HI.out i (by omega) (by omega) wr (HB1.out.trans (k3.mono HB1.out.size)))
          clear k1 k2 k3
          go_wp2_with (fail)
          go_at_call 44
          refine HCl.out.mono ?_
          rintro e w4 ⟨rfl, hb4⟩
          have hr4 := HR3.out.below hb4
          have ci := hr4.cell i hlt
          have fi := hr4.free i
          have HR4 := Lib.hid hr4
          have HB4 := Lib.hid (HB3.out.trans (hb4.mono HB3.out.size))
          clear hr4 hb4
          go_wp2
          go_roundw
          case rel => exact ⟨i + 1, by go_num, by omega, Lib.hid ⟨fun q => if q = i then decB i else T q, (HR4.out.set i hlt _).ext (fun q _ => by show (if q = i then Value.string (decB i) else Value.string (T q)) = Value.string (if q = i then decB i else T q); split <;> rfl), fun q hq => by
            show (if q = i then decB i else T q) = decB q
            by_cases e : q = i
            · rw [if_pos e, e]
            · rw [if_neg e]; exact HT3.out q (by omega), HB4.out.setCell (Nat.le_refl _) _⟩⟩
          case measure => simp [intOf]; omega
        · obtain rfl : i = M := by omega
          have hdec : ∀ q, q < i → (decB q).size ≤ 4 := fun q hq => decDigits_len 3 q (by omega)
          have hsum : ∀ n, n ≤ i → sumS decB n ≤ 4 * n := by
            intro n
            induction n with
            | zero => intro _; simp [sumS]
            | succ n ih =>
              intro h
              rw [sumS]
              have := ih (by omega)
              have := hdec n (by omega)
              omega
          have HS0 : Hid (TSt w1 wr i L 0) := Lib.hid ⟨decB, k1.ext (fun q hq => by rw [k2 q hq]), by simp, by have := hsum i (Nat.le_refl _); omega, k3⟩
          clear k1 k2 k3 hdec hsum
          obtain ⟨wo, rfl⟩ : ∃ wo : World, wo = wr := ⟨_, rfl⟩
          go_wp2
          go_loopw [38] (fun x wr => ∃ j : Nat, x = .int .i64 j ∧ j ≤ L.length ∧ Hid (TSt w1 wr i L j)) (fun x _ => L.length - (intOf x).toNat)
          case atStart => exact ⟨0, rfl, by omega, HS0⟩
          case round =>
            obtain ⟨j, rfl, hj, HS⟩ := hrel
            obtain ⟨T, k1, k2, k3, k4⟩ := HS.out
            by_cases hlt : j < L.length
            · obtain ⟨⟨a, b, c3⟩, hLj⟩ : ∃ p, L[j] = p := ⟨_, rfl⟩
              have hab := HMem.out _ (List.getElem_mem hlt)
              rw [hLj] at hab
              have hab1 : a < b := hab.1
              have hab2 : b < i := hab.2
              obtain ⟨ad, x, y, z, rfl, hx, hy, hz, HX⟩ := at_K3 (by rw [List.length_map]; exact Kd.C_below HV.out k4) j (by rw [List.length_map]; exact hlt)
              obtain ⟨rfl, rfl, rfl⟩ : (x = (a : Int)) ∧ (y = (b : Int)) ∧ z = (c3 : Int) := by
                have h := HX.out
                rw [List.getD_eq_getElem?_getD, List.getElem?_map, List.getElem?_eq_getElem hlt, hLj] at h
                simp [tI] at h
                exact ⟨h.1.symm, h.2.1.symm, h.2.2.symm⟩
              have ca := k1.cell a (by omega)
              have cb := k1.cell b (by omega)
              have fa := k1.free a
              have fb := k1.free b
              have za := sumS_ge T i a (by omega)
              have zb := sumS_ge T i b (by omega)
              obtain ⟨ta, hta⟩ : ∃ t, T a = t := ⟨_, rfl⟩
              obtain ⟨tb, htb⟩ : ∃ t, T b = t := ⟨_, rfl⟩
              rw [hta] at ca za
              rw [htb] at cb zb
              have za2 : ta.size ≤ 40000 := by omega
              have zb2 : tb.size ≤ 40000 := by omega
              clear za zb
              have hg1 := k1.lt
              go_upto_region 15 with (fail)
              obtain ⟨w5, hw5⟩ : ∃ w5, wr.alloc (.cells #[.int .i64 (a : Int), .int .i64 (b : Int), .int .i64 (c3 : Int)] 29) = w5 := ⟨_, rfl⟩
              rw [hw5]
              have hb5 : Below wr.heap.size wr w5 := by rw [← hw5]; exact below_alloc (Below.refl _ _) _
              have q0 : w5.cell? ⟨wr.heap.size, 0, none⟩ = some (.int .i64 (a : Int)) := by rw [← hw5]; simp [go_sem]
              have q1 : w5.cell? ⟨wr.heap.size, 1, none⟩ = some (.int .i64 (b : Int)) := by rw [← hw5]; simp [go_sem]
              have da : w5.cell? ⟨w1.heap.size, a, none⟩ = some (.string ta) := (hb5.cell (p := ⟨w1.heap.size, a, none⟩) hg1).trans ca
              have db : w5.cell? ⟨w1.heap.size, b, none⟩ = some (.string tb) := (hb5.cell (p := ⟨w1.heap.size, b, none⟩) hg1).trans cb
              have ga : w5.frozen? ⟨w1.heap.size, a, none⟩ = false := (hb5.frozen (p := ⟨w1.heap.size, a, none⟩) hg1).trans fa
              have gb : w5.frozen? ⟨w1.heap.size, b, none⟩ = false := (hb5.frozen (p := ⟨w1.heap.size, b, none⟩) hg1).trans fb
              have HB5 := Lib.hid hb5
              have HK1 := Lib.hid k1
              have HK2 := Lib.hid k2
              have HK3 := Lib.hid k3
              have HK4 := Lib.hid k4
              have hab3 : a < i := by omega
              have hne : a ≠ b := by omega
              have HTa := Lib.hid hta
              have HTb := Lib.hid htb
              have HLj := Lib.hid hLj
              clear hw5 hb5 ca cb fa fb k1 k2 k3 k4 hta htb hx hy hz hLj
              go_region
              obtain ⟨w6, hw6⟩ : ∃ w6, (w5.setCell ⟨w1.heap.size, a, none⟩ (.string (pB ta tb))).drew = w6 := ⟨_, rfl⟩
              have hr6 : Row w6 w1.heap.size i (fun q => .string (if q = a then pB ta tb else T q)) := by
                rw [← hw6]
                exact (((HK1.out.below HB5.out).set a (by omega) _).below (Below.refl _ _).drew).ext (fun q _ => by split <;> rfl)
              have hb6 : Below w1.heap.size w1 w6 := by
                rw [← hw6]
                exact ((HK4.out.trans (HB5.out.mono HK4.out.size)).setCell (by exact Nat.le_refl _) _).drew
              have r1 : w6.cell? ⟨wr.heap.size, 1, none⟩ = some (.int .i64 (b : Int)) := by
                rw [← hw6]
                refine (World.cell?_setCell_other _ _ _ _ (by intro e; injection e with e; omega)).trans q1
              have cb := hr6.cell b (by omega)
              have fb := hr6.free b
              rw [if_neg (fun h => hne h.symm)] at cb
              have HR6 := Lib.hid hr6
              have HB6 := Lib.hid hb6
              rw [show (w5.setCell ⟨w1.heap.size, a, none⟩ (.string ((⟨#[40]⟩ : ByteArray) ++ ta ++ ⟨#[32]⟩ ++ tb ++ ⟨#[41]⟩))).drew = w6 from hw6]
              clear q0 q1 da db ga gb hw6 hr6 hb6
              go_wp2
              go_roundw
              case rel => exact ⟨j + 1, by go_num, by omega, Lib.hid ⟨fun q => if q = b then ⟨#[]⟩ else if q = a then pB (T a) (T b) else T q, by
                  refine (HR6.out.set b hab2 _).ext (fun q _ => ?_)
                  show (if q = b then Value.string ⟨#[]⟩ else Value.string (if q = a then pB ta tb else T q)) = Value.string (if q = b then ⟨#[]⟩ else if q = a then pB (T a) (T b) else T q)
                  rw [HTa.out, HTb.out]
                  split <;> rfl, by
                  rw [← HK2.out, List.drop_eq_getElem_cons hlt, HLj.out, txtF], by
                  rw [sumS_join (T := T) (n := i) (a := a) (b := b) (by omega) hab2 hne]
                  have := HK3.out; omega, HB6.out.setCell (by exact Nat.le_refl _) _⟩⟩
              case measure => simp [intOf]; omega
            · obtain rfl : j = L.length := by omega
              rw [List.drop_of_length_le (Nat.le_refl _), txtF] at k2
              have c0 := k1.cell 0 (by omega)
              have HK2 := Lib.hid k2
              have HK4 := Lib.hid k4
              clear k2 k4
              go_wp2
              go_ret2
              refine ⟨HB1.out.trans (HK4.out.mono HB1.out.size), .inr (.inr ⟨H0.out, by omega, ?_⟩)⟩
              rw [Int.toNat_natCast, HLd.out, ← HK2.out]
              rfl
end Go.Proofs.YtcikcnkhcfhomaaDoor.Hand
/- Chapter 22's awake: answers that the document names. -/
namespace Go.Proofs.YtcikcnkhcfhomaaDoor.Hand
open Go.RowKit Go.Proofs.YtcikcnkhcfhomaaDoorW.PrintWords Go.Proofs.YtcikcnkhcfhomaaDoorW.PrintMore Go.Proofs.YtcikcnkhcfhomaaDoor.Math

theorem add_off (b j : Nat) : (Addr.add ⟨b, 0, none⟩ j) = ⟨b, j, none⟩ := by
  unfold Addr.add
  split
  · rename_i h0; rw [h0]
  · simp
theorem C2_of {w : World} {b : Nat} {l : List (Int × Int)} (hm : l.length ≤ 1000) (h : ∀ j x, l[j]? = some x → w.cell? ⟨b, j * 2, none⟩ = some (.int .i64 x.1) ∧ w.cell? ⟨b, j * 2 + 1, none⟩ = some (.int .i64 x.2)) : K2.C w (some ⟨b, 0, none⟩) l.length l := by
  refine ⟨rfl, by have : maxLen = 9223372036854775807 := (by decide); omega, fun _ => ⟨_, rfl, fun j r hj => ?_⟩⟩
  obtain ⟨h1, h2⟩ := h j r hj
  refine ⟨[.int .i64 r.1, .int .i64 r.2], rfl, ⟨[.int .i64 r.1], [.int .i64 r.2], rfl, rfl, rfl⟩, fun i u hu => ?_⟩
  rw [show K2.sz = 2 from rfl, add_off]
  match i, hu with
  | 0, hu => simp at hu; subst hu; exact h1
  | 1, hu => simp at hu; subst hu; exact h2
  | i + 2, hu => simp at hu
theorem C3_of {w : World} {b : Nat} {l : List (Int × Int × Int)} (hm : l.length ≤ 1000) (h : ∀ j x, l[j]? = some x → w.cell? ⟨b, j * 3, none⟩ = some (.int .i64 x.1) ∧ w.cell? ⟨b, j * 3 + 1, none⟩ = some (.int .i64 x.2.1) ∧ w.cell? ⟨b, j * 3 + 2, none⟩ = some (.int .i64 x.2.2)) : K3.C w (some ⟨b, 0, none⟩) l.length l := by
  refine ⟨rfl, by have : maxLen = 9223372036854775807 := (by decide); omega, fun _ => ⟨_, rfl, fun j r hj => ?_⟩⟩
  obtain ⟨h1, h2, h3⟩ := h j r hj
  refine ⟨[.int .i64 r.1, .int .i64 r.2.1, .int .i64 r.2.2], rfl, ⟨[.int .i64 r.1], [.int .i64 r.2.1, .int .i64 r.2.2], rfl, rfl, [.int .i64 r.2.1], [.int .i64 r.2.2], rfl, rfl, rfl⟩, fun i u hu => ?_⟩
  rw [show K3.sz = 3 from rfl, add_off]
  match i, hu with
  | 0, hu => simp at hu; subst hu; exact h1
  | 1, hu => simp at hu; subst hu; exact h2
  | 2, hu => simp at hu; subst hu; exact h3
  | i + 3, hu => simp at hu
theorem litI (xs : List Int) (W : World) (hx : xs.length ≤ 1000) : Kd.C (Kd.int .i64) (W.alloc (.cells (xs.map (Value.int .i64)).toArray 3)) (some ⟨W.heap.size, 0, none⟩) xs.length xs := by
  have h := (Kd.R_reads' (R_lit (enc := Value.int .i64) (h1 := fun _ => rfl) 3 W.heap.size W xs (Nat.le_refl _) (by unfold maxLen; omega))).2.2
  exact h
theorem dec1 (n : Nat) (h : n < 10) : decB n = ⟨#[UInt8.ofNat (48 + n)]⟩ := by
  unfold decB
  rw [Lib.decDigits, dif_pos h]
theorem text4 : txtF [(1, 2, 3), (0, 1, 3), (0, 3, 4)] decB 0 = ⟨#[40, 40, 48, 32, 40, 49, 32, 50, 41, 41, 32, 51, 41]⟩ := by
  simp only [txtF]
  simp [pB, dec1]
  rfl
theorem two_lit (W W' : World) (b : Nat) (hb : W.heap.size = b) (hW : W' = W.alloc (.cells #[.int .i64 0, .int .i64 2, .int .i64 2, .int .i64 2, .int .i64 2, .int .i64 4, .int .i64 4, .int .i64 5] 44)) : K2.C W' (some ⟨b, 0, none⟩) 4 [(0, 2), (2, 2), (2, 4), (4, 5)] := by
  subst hb hW
  refine C2_of (by simp) (fun j x hj => ?_)
  match j, hj with
  | 0, hj => simp at hj; subst hj; simp [go_sem]
  | 1, hj => simp at hj; subst hj; simp [go_sem]
  | 2, hj => simp at hj; subst hj; simp [go_sem]
  | 3, hj => simp at hj; subst hj; simp [go_sem]
  | j + 4, hj => simp at hj
theorem three_lit (W W' : World) (b : Nat) (hb : W.heap.size = b) (hW : W' = W.alloc (.cells #[.int .i64 1, .int .i64 2, .int .i64 3, .int .i64 0, .int .i64 1, .int .i64 3, .int .i64 0, .int .i64 3, .int .i64 4] 29)) : K3.C W' (some ⟨b, 0, none⟩) 3 [(1, 2, 3), (0, 1, 3), (0, 3, 4)] := by
  subst hb hW
  refine C3_of (by simp) (fun j x hj => ?_)
  match j, hj with
  | 0, hj => simp at hj; subst hj; simp [go_sem]
  | 1, hj => simp at hj; subst hj; simp [go_sem]
  | 2, hj => simp at hj; subst hj; simp [go_sem]
  | j + 3, hj => simp at hj
theorem joins4 : ((joinL (4 : Int).toNat (List.range (4 : Int).toNat) (([1, 0, 0] : List Int).map Int.toNat))) = [(1, 2, 3), (0, 1, 3), (0, 3, 4)] := by decide
set_option maxHeartbeats 1000000 in
theorem awake_calls (w : World) (Ae : Nat → Addr) (hE : ErrsL [0, 7, 8] w Ae) : Calls Tryd.prog 11 #[] w fun e w' => e = .returned (.bool true) ∧ Below w.heap.size w w' := by
  have HC : Hid (∀ (W : World) (b : Nat), Below w.heap.size w W → W.heap.size = b → Calls Tryd.prog 21 #[.int .i64 5, .slice (some ⟨b, 0, none⟩) 3 3] (W.alloc (.cells #[.int .i64 2, .int .i64 2, .int .i64 4] 3)) fun e w' => ∃ B d, e = .returned (.tuple #[.slice B 4 d, .nilIface]) ∧ K2.C w' B 4 [(0, 2), (2, 2), (2, 4), (4, 5)] ∧ Below w.heap.size w w') := Lib.hid (fun W b hW hb => by
    subst hb
    have hb1 : Below w.heap.size w (W.alloc (.cells #[.int .i64 2, .int .i64 2, .int .i64 4] 3)) := below_alloc hW _
    refine (cut_calls 5 (some ⟨W.heap.size, 0, none⟩) 3 [2, 2, 4] _ Ae ((hE.sub (by decide)).below hb1) (litI [2, 2, 4] W (by decide)) (by decide)).mono ?_
    rintro e w' ⟨hb, ⟨k, hk, -⟩ | ⟨-, B, d, rfl, hR⟩⟩
    · rw [show cutE 5 [2, 2, 4] = 0 by decide] at hk; cases hk
    · exact ⟨B, 4, rfl, (Kd.R_reads' hR).2.2, below_next hb1 hb⟩)
  have HJ : Hid (∀ (W : World) (b : Nat), Below w.heap.size w W → W.heap.size = b → Calls Tryd.prog 10 #[.int .i64 4, .slice (some ⟨b, 0, none⟩) 3 3] (W.alloc (.cells #[.int .i64 1, .int .i64 0, .int .i64 0] 3)) fun e w' => ∃ B d, e = .returned (.tuple #[.slice B 3 d, .nilIface]) ∧ K3.C w' B 3 [(1, 2, 3), (0, 1, 3), (0, 3, 4)] ∧ Below w.heap.size w w' ∧ Below W.heap.size W w') := Lib.hid (fun W b hW hb => by
    subst hb
    have hb0 : Below W.heap.size W (W.alloc (.cells #[.int .i64 1, .int .i64 0, .int .i64 0] 3)) := below_alloc (Below.refl _ _) _
    have hb1 := below_next hW hb0
    refine (joins_calls 4 (some ⟨W.heap.size, 0, none⟩) 3 [1, 0, 0] _ Ae ((hE.sub (by decide)).below hb1) (litI [1, 0, 0] W (by decide)) (by decide) (by decide)).mono ?_
    rintro e w' ⟨hb, ⟨k, hk, -⟩ | ⟨-, v, rfl, hR⟩⟩
    · rw [show ordE 4 [1, 0, 0] = 0 by decide] at hk; cases hk
    · rw [joins4] at hR
      obtain ⟨B, d, rfl⟩ := Kd.R_slice hR
      exact ⟨B, d, rfl, (Kd.R_reads' hR).2.2, below_next hb1 hb, below_next hb0 hb⟩)
  have HT : Hid (∀ (W : World) (b : Nat), Below w.heap.size w W → W.heap.size = b → Calls Tryd.prog 27 #[.int .i64 4, .slice (some ⟨b, 0, none⟩) 3 3] (W.alloc (.cells #[.int .i64 1, .int .i64 0, .int .i64 0] 3)) fun e w' => e = .returned (.tuple #[.string ⟨#[40, 40, 48, 32, 40, 49, 32, 50, 41, 41, 32, 51, 41]⟩, .nilIface]) ∧ Below w.heap.size w w' ∧ Below W.heap.size W w') := Lib.hid (fun W b hW hb => by
    subst hb
    have hb0 : Below W.heap.size W (W.alloc (.cells #[.int .i64 1, .int .i64 0, .int .i64 0] 3)) := below_alloc (Below.refl _ _) _
    have hb1 := below_next hW hb0
    refine (text_calls 4 (some ⟨W.heap.size, 0, none⟩) 3 [1, 0, 0] _ Ae ((hE.sub (by decide)).below hb1) (litI [1, 0, 0] W (by decide)) (by decide) (by decide) (fun i _ hi W2 _ => (Tryd.strconv_Itoa_small i (by omega) W2).mono (fun e w' h => ⟨h.1, by rw [h.2]; exact Below.refl _ _⟩))).mono ?_
    rintro e w' ⟨hb, ⟨k, hk, -⟩ | ⟨-, h4, -⟩ | ⟨-, -, rfl⟩⟩
    · rw [show ordE 4 [1, 0, 0] = 0 by decide] at hk; cases hk
    · omega
    · rw [joins4, text4]
      exact ⟨rfl, below_next hb1 hb, below_next hb0 hb⟩)
  go_enter Tryd.func11, Tryd.ntmps11
  go_wp2_with (fail)
  go_at_call 21
  refine (HC.out w _ (Below.refl _ _) rfl).mono ?_
  rintro e w2 ⟨B2, d2, rfl, hC2, hb2⟩
  have HC2 := Lib.hid hC2
  have HB2 := Lib.hid hb2
  clear hC2 hb2
  go_wp2_with (fail)
  go_at_call 10
  refine (HJ.out w2 _ HB2.out rfl).mono ?_
  rintro e w3 ⟨B3, d3, rfl, hC3, hb3, hb23⟩
  have HC3 := Lib.hid hC3
  have HB3 := Lib.hid hb3
  have HB23 := Lib.hid hb23
  clear hC3 hb3 hb23
  go_wp2_with (fail)
  go_at_call 27
  refine (HT.out w3 _ HB3.out rfl).mono ?_
  rintro e w4 ⟨rfl, hb4, hb34⟩
  have HB4 := Lib.hid hb4
  have HB34 := Lib.hid hb34
  clear hb4 hb34
  go_wp2_with (fail)
  have hc2 := two_lit w4 _ _ rfl rfl
  have hc2' := Kd.C_alloc (Kd.C_below (Kd.C_below HC2.out HB23.out) HB34.out) (.cells #[.int .i64 0, .int .i64 2, .int .i64 2, .int .i64 2, .int .i64 2, .int .i64 4, .int .i64 4, .int .i64 5] 44)
  go_at_call 24
  refine (twos_calls B2 _ d2 4 [(0, 2), (2, 2), (2, 4), (4, 5)] [(0, 2), (2, 2), (2, 4), (4, 5)] _ hc2' hc2).mono ?_
  rintro e w' ⟨rfl, n1, rfl⟩
  rw [decide_eq_true rfl]
  obtain ⟨w5, hw5⟩ : ∃ w5, (w4.alloc (.cells #[.int .i64 0, .int .i64 2, .int .i64 2, .int .i64 2, .int .i64 2, .int .i64 4, .int .i64 4, .int .i64 5] 44)).drewN n1 = w5 := ⟨_, rfl⟩
  have hb45 : Below w4.heap.size w4 w5 := by rw [← hw5]; exact pw_below_drewN (below_alloc (Below.refl _ _) _) _
  rw [hw5]
  have HB45 := Lib.hid hb45
  clear hc2 hc2' hw5 hb45
  go_wp2_with (fail)
  have hc3 := three_lit w5 _ _ rfl rfl
  have hc3' := Kd.C_alloc (Kd.C_below (Kd.C_below HC3.out HB34.out) HB45.out) (.cells #[.int .i64 1, .int .i64 2, .int .i64 3, .int .i64 0, .int .i64 1, .int .i64 3, .int .i64 0, .int .i64 3, .int .i64 4] 29)
  go_at_call 29
  refine (threes_calls B3 _ d3 3 [(1, 2, 3), (0, 1, 3), (0, 3, 4)] [(1, 2, 3), (0, 1, 3), (0, 3, 4)] _ hc3' hc3).mono ?_
  rintro e w' ⟨rfl, n2, rfl⟩
  rw [decide_eq_true rfl]
  clear hc3 hc3'
  go_wp2
  go_ret
  exact ⟨ret_bool (by simp), pw_below_drewN (below_alloc (below_next HB4.out HB45.out) _) _⟩
end Go.Proofs.YtcikcnkhcfhomaaDoor.Hand
/- Rows of one's own that may have been cut to their length: their first append goes to new memory; rows that share none. -/
namespace Go.Proofs.YtcikcnkhcfhomaaDoor.Hand
open Go.RowKit Go.Proofs.YtcikcnkhcfhomaaDoorW.PrintWords Go.Proofs.YtcikcnkhcfhomaaDoorW.PrintMore Go.Proofs.YtcikcnkhcfhomaaDoor.Math

/-- A row of the call's own, its room perhaps cut to its length. -/
def RC {α : Type} (d : Kd α) (e : Nat) (w : World) (base : Nat) (v : Value) (xs : List α) : Prop :=
  ∃ A c cap, v = .slice A xs.length c ∧ (c = cap ∨ c = xs.length) ∧ d.R e w base (fun _ => True) (.slice A xs.length cap) xs
/-- They share no block. -/
def disj (u v : Value) : Prop := ∀ k, u.ownBlock = some k → v.ownBlock ≠ some k
theorem disj.symm {u v : Value} (h : disj u v) : disj v u := fun k h1 h2 => h k h2 h1
theorem disj_nil (v : Value) : disj v (.slice none 0 0) := fun k _ h => by simp [Value.ownBlock] at h
section
variable {α : Type} {d : Kd α} {e base : Nat} {w w1 : World} {v : Value} {xs : List α}
theorem RC.of_R (h : d.R e w base (fun _ => True) v xs) : RC d e w base v xs := by
  obtain ⟨A, c, rfl⟩ := Kd.R_slice h
  exact ⟨A, c, c, rfl, .inl rfl, h⟩
theorem RC.nil : RC d e w base (.slice none 0 0) [] := .of_R (Kd.R_nil _ _ _ _ _)
theorem RC.cut {A : Option Addr} {cap : Nat} (h : d.R e w base (fun _ => True) (.slice A xs.length cap) xs) : RC d e w base (.slice A xs.length xs.length) xs := ⟨A, _, cap, rfl, .inr rfl, h⟩
theorem RC.below (h : RC d e w base v xs) (hb : Below w.heap.size w w1) : RC d e w1 base v xs := by
  obtain ⟨A, c, cap, e1, e2, h⟩ := h
  exact ⟨A, c, cap, e1, e2, Kd.R_below h hb⟩
theorem RC.lower {b' : Nat} (h : RC d e w base v xs) (hb : b' ≤ base) : RC d e w b' v xs := by
  obtain ⟨A, c, cap, e1, e2, h⟩ := h
  exact ⟨A, c, cap, e1, e2, Kd.R_lower h hb⟩
theorem RC.reads (h : RC d e w base v xs) : ∃ A c, v = .slice A xs.length c ∧ xs.length ≤ c ∧ d.C w A xs.length xs := by
  obtain ⟨A, c, cap, rfl, e2, h⟩ := h
  obtain ⟨h1, h2, h3⟩ := Kd.R_reads' h
  exact ⟨A, c, rfl, by omega, h3⟩
theorem RC.C {A : Option Addr} {c : Nat} (h : RC d e w base (.slice A xs.length c) xs) : d.C w A xs.length xs := by
  obtain ⟨A', c', e1, _, e3⟩ := h.reads
  injection e1 with e1 _ _
  subst e1
  exact e3
theorem RC.form {n : Nat} (h : RC d e w base v xs) (hn : xs.length = n) : ∃ A c, v = .slice A n c ∧ n ≤ c ∧ d.C w A xs.length xs := by
  subst hn; exact h.reads
theorem ownBlock_slice (A : Option Addr) (n c : Nat) : (Value.slice A n c).ownBlock = A.map (·.block) := by cases A <;> rfl
theorem RC.lt (h : RC d e w base v xs) (k : Nat) (hk : v.ownBlock = some k) : base ≤ k ∧ k < w.heap.size := by
  obtain ⟨A, c, cap, rfl, e2, h⟩ := h
  rw [ownBlock_slice, ← ownBlock_slice A xs.length cap] at hk
  obtain ⟨inner, ho⟩ := Kd.R_own h
  exact ⟨own_base ho k hk, own_lt ho k hk⟩
/-- Another row is written: this one stays. -/
theorem RC.grown (h : RC d e w base v xs) (hE : d.E = []) {row : Option Nat} (hg : w.grownBy w1 row) (hne : ∀ k, row = some k → v.ownBlock ≠ some k) : RC d e w1 base v xs := by
  obtain ⟨A, c, cap, rfl, e2, h⟩ := h
  refine ⟨A, c, cap, rfl, e2, Kd.R_grown2 h hE hg (fun k hk hq => hne k hk ?_)⟩
  rw [ownBlock_slice] at hq ⊢
  exact hq.symm
theorem RC.disj_new {u : Value} {b : Nat} (h : RC d e w base v xs) (hu : u.ownBlock = some b) (hb : w.heap.size ≤ b) : disj u v := fun k h1 h2 => by
  have := (h.lt k h2).2
  rw [hu] at h1
  injection h1 with h1
  omega
/-- Made later: they share no block. -/
theorem RC.disj_later {β : Type} {d' : Kd β} {e' : Nat} {w' : World} {u : Value} {ys : List β} (h : RC d e w base v xs) (k : RC d' e' w' w.heap.size u ys) : disj u v := fun i h1 h2 => by
  have := (h.lt i h2).2
  have := (k.lt i h1).1
  omega
end
section
variable {P : Program} {ops : Array Oper} {rest : List Oper} {o : Oper} {a : Act} {Q : Exit → Act → World → Prop} {α : Type}
/-- append of one element. -/
theorem RC_append (d : Kd α) {w0 W : World} (base : Nat) (hgd : o.guard = none) (s x : Operand) (t e : TypeId) (z : Value) (bytes : Nat)
    (ho : o.op = .call { callee := .builtin .append, args := #[s, x], argTypes := #[t, t] })
    (ht : P.underlying t = some (.slice e)) (hinfo : (P.info? e).map (fun i => (i.zero, i.size, i.bytes)) = some (some z, d.sz, bytes)) (hz : z.cells.size = d.sz) (hs0 : 0 < d.sz) (hb0 : 0 < bytes)
    (v : Value) (xs : List α) (p : α) (cs : List Value) (hs : a.eval s = v) (hx : a.eval x = .slice (some ⟨W.heap.size, 0, none⟩) 1 1) (hp : d.M W base (fun _ => False) p cs)
    (HO : RC d e W base v xs) (HB : Below base w0 W) (hbase : base ≤ W.heap.size) (hl : (xs.length + 1) * bytes ≤ 140737488355328)
    (h : ∀ v1 w1, RC d e w1 base v1 (xs ++ [p]) → Below base w0 w1 → W.grownBy w1 v.ownBlock → (v1.ownBlock = v.ownBlock ∨ ∃ b, v1.ownBlock = some b ∧ W.heap.size ≤ b) → wpList P ops Q rest (a.put o.dst v1) w1) :
    wpList P ops Q (o :: rest) a (W.alloc (.cells cs.toArray e)) := by
  obtain ⟨A, c, cap, rfl, hc, hR⟩ := HO
  rcases hc with rfl | rfl
  · exact Kd.R_append d (w0 := w0) base hgd s x t e z bytes ho ht hinfo hz hs0 hb0 _ xs p cs (fun _ => True) (fun _ => False) hs hx hp (fun _ hk => hk.elim) (fun _ _ => trivial) hR HB hbase hl
      (fun v1 w1 h1 h2 h3 h4 => h v1 w1 (.of_R h1) h2 h3 h4)
  · obtain ⟨i0, hi, hzz⟩ := Option.map_eq_some_iff.1 hinfo
    simp only [Prod.mk.injEq] at hzz
    obtain ⟨hz0, hz1, hz2⟩ := hzz
    have hlen : xs.length + 1 ≤ 140737488355328 := Nat.le_trans (Nat.le_mul_of_pos_right _ hb0) hl
    obtain ⟨h0, inner, hown, hr⟩ := hR
    have hcl : cs.length = d.sz := d.K_len (d.K_of_M hp)
    have hcells : ∀ b, A = some b → ∀ j u, inner[j]? = some u → (W.alloc (.cells cs.toArray e)).cell? (b.add j) = some u := fun b hb j u hu => by
      subst hb
      rcases hown.2 with ⟨hv, _⟩ | ⟨g, cap', cur, hv, _⟩
      · cases hv
      · injection hv with ha _ _
        injection ha with ha
        subst ha
        have h1 := hown.cells (g := g) rfl j u hu
        rw [World.cell?_alloc_lt _ _ _ (World.block_lt_of_cell? _ _ h1)]
        exact h1
    refine wpList_append_grows (P := P) _ hgd s x t ho e i0 z d.sz bytes ht hi hz0 hz1 hz2 hz hs0 A xs.length xs.length inner hs (fun hA => ?_) hr.1 hcells ⟨W.heap.size, 0, none⟩ 1 1 cs hx (by rw [hcl, Nat.one_mul])
      (World.news_of_block (cs := cs.toArray) (t := e) (fr := (0, 0)) (heap_alloc_new W _)) (d.K_one (d.K_of_M hp)) (by omega) (by simp only [maxLen]; omega) hl ?_
    · rcases hown.2 with ⟨_, h1⟩ | ⟨g, cap', cur, hv, _⟩
      · exact ⟨h1, h1⟩
      · subst hA; cases hv
    · intro v1 w1 hown1 hg1
      have hbk : ∀ k, v1.ownBlock = some k → W.heap.size ≤ k := fun k hk => by
        have := own_base hown1 k hk
        simp at this
        omega
      have hg2 : W.grownBy w1 none := World.grownBy.trans (World.grownBy_alloc W _ _) hg1
      have hg3 : W.grownBy w1 (Value.slice A xs.length cap).ownBlock := ⟨hg2.os, hg2.tape, hg2.output, hg2.size, fun k hk _ => hg2.block k hk (by simp)⟩
      have hat : ∃ b, v1.ownBlock = some b ∧ W.heap.size ≤ b := by
        rcases hown1.2 with ⟨_, h1⟩ | ⟨g, cap', cur, rfl, hb, _⟩
        · omega
        · exact ⟨g, rfl, hbk g rfl⟩
      have hR1 : d.R e w1 base (fun _ => True) v1 (xs ++ [p]) := Kd.R_appended h0 hr hp (fun _ hk => hk.elim) (fun _ _ => trivial) (own_less hown1 (by simp; omega)) hg3 (.inr hat)
      refine h v1 w1 (.of_R hR1) (HB.grown hg2 hbase (fun k hk => by cases hk)) ?_ (.inr hat)
      exact ⟨hg2.os, hg2.tape, hg2.output, hg2.size, fun k hk _ => hg2.block k hk (by simp)⟩
/-- A store into an element. -/
theorem RC_store (d : Kd α) {w0 W : World} (base : Nat) (hN : o.dst = none) (hgd : o.guard = none) (t : TypeId) (p x : Operand) (ho : o.op = .store t p x) (e : TypeId) {A : Option Addr} {c : Nat} (i : Nat) (xs : List α) (x' : α) (u : Value) (seg : List Value) (z : α)
    (haddr : a.eval p = .pointer (A.map (·.add (i * d.sz)))) (hx : a.eval x = u) (hu : u.cells.toList = seg) (ht : (P.info? t).map (·.size) = some seg.length) (h1 : ∀ q ∈ seg, q.oneCell' = true)
    (HO : RC d e W base (.slice A xs.length c) xs) (hi : i < xs.length) (hj : seg.length = d.sz) (hM : d.M W base (fun _ => False) x' seg) (HB : Below base w0 W)
    (h : ∀ w1, RC d e w1 base (.slice A xs.length c) (xs.set i x') → Below base w0 w1 → W.grownBy w1 (Value.slice A xs.length c).ownBlock → wpList P ops Q rest a w1) : wpList P ops Q (o :: rest) a W := by
  obtain ⟨A', c', cap, hv, hc, hR⟩ := HO
  injection hv with e1 _ e3
  subst e1 e3
  obtain ⟨g, cap', e4, e5, e6⟩ : ∃ g cap', A = some ⟨g, 0, none⟩ ∧ cap = cap' ∧ True := by
    obtain ⟨_, inner, ho, _⟩ := hR
    rcases ho.2 with ⟨_, h0⟩ | ⟨g, cap', cur, hv, _⟩
    · omega
    · injection hv with ha _ hcc
      exact ⟨g, cap', ha, hcc, trivial⟩
  subst e4 e5
  obtain ⟨c0, hcl, hMc, hcc⟩ := Kd.R_get hR z (i : Int) (by omega) (by omega)
  rw [Int.toNat_natCast] at hcc
  refine Kd.R_store d (w0 := w0) base hN hgd t p x ho e (i : Int) 0 xs x' u seg c0 (fun _ => True) (fun _ => False) (o' := i * d.sz) ?_ (by simp) hx hu ht h1 hR (by omega) (by omega) hcl (fun j u hu => ?_) (by omega) ?_ (fun _ hk => hk.elim) HB ?_
  · rw [haddr]
    simp only [Option.map_some]
    rw [add_plain]
  · have := hcc j u hu
    rw [add_plain] at this
    rw [Int.toNat_natCast]
    exact this
  · rw [List.take_zero, List.nil_append, Nat.zero_add, hj, List.drop_of_length_le (by omega), List.append_nil]
    exact hM
  · intro w1 hR1 hb1 hg1
    rw [Int.toNat_natCast] at hR1
    refine h w1 ⟨_, _, _, by rw [List.length_set], ?_, by rw [List.length_set]; exact hR1⟩ hb1 hg1
    rw [List.length_set]
    exact hc
end
/-- Three rows that share no block. -/
structure Three {α : Type} (d : Kd α) (e : Nat) (w0 w : World) (lv mv nv : Value) (L M N : List α) : Prop where
  rl : RC d e w w0.heap.size lv L
  rm : RC d e w w0.heap.size mv M
  rn : RC d e w w0.heap.size nv N
  lm : disj lv mv
  ln : disj lv nv
  mn : disj mv nv
  bel : Below w0.heap.size w0 w
section
variable {α : Type} {d : Kd α} {e : Nat} {w0 w w1 : World} {lv mv nv v1 : Value} {L M N X : List α}
theorem Three.putL (h : Three d e w0 w lv mv nv L M N) (hE : d.E = []) (hr : RC d e w1 w0.heap.size v1 X) (hb : Below w0.heap.size w0 w1) (hg : w.grownBy w1 lv.ownBlock) (hat : v1.ownBlock = lv.ownBlock ∨ ∃ b, v1.ownBlock = some b ∧ w.heap.size ≤ b) : Three d e w0 w1 v1 mv nv X M N := by
  refine ⟨hr, h.rm.grown hE hg (fun k hk => h.lm k hk), h.rn.grown hE hg (fun k hk => h.ln k hk), ?_, ?_, h.mn, hb⟩
  · rcases hat with hat | ⟨b, hb1, hb2⟩
    · intro k hk; exact h.lm k (hat ▸ hk)
    · exact h.rm.disj_new hb1 hb2
  · rcases hat with hat | ⟨b, hb1, hb2⟩
    · intro k hk; exact h.ln k (hat ▸ hk)
    · exact h.rn.disj_new hb1 hb2
theorem Three.putM (h : Three d e w0 w lv mv nv L M N) (hE : d.E = []) (hr : RC d e w1 w0.heap.size v1 X) (hb : Below w0.heap.size w0 w1) (hg : w.grownBy w1 mv.ownBlock) (hat : v1.ownBlock = mv.ownBlock ∨ ∃ b, v1.ownBlock = some b ∧ w.heap.size ≤ b) : Three d e w0 w1 lv v1 nv L X N := by
  refine ⟨h.rl.grown hE hg (fun k hk => h.lm.symm k hk), hr, h.rn.grown hE hg (fun k hk => h.mn k hk), ?_, h.ln, ?_, hb⟩
  · rcases hat with hat | ⟨b, hb1, hb2⟩
    · intro k hk e
      exact h.lm k hk (hat ▸ e)
    · exact (h.rl.disj_new hb1 hb2).symm
  · rcases hat with hat | ⟨b, hb1, hb2⟩
    · intro k hk; exact h.mn k (hat ▸ hk)
    · exact h.rn.disj_new hb1 hb2
theorem Three.below (h : Three d e w0 w lv mv nv L M N) (hb : Below w.heap.size w w1) : Three d e w0 w1 lv mv nv L M N := ⟨h.rl.below hb, h.rm.below hb, h.rn.below hb, h.lm, h.ln, h.mn, below_next h.bel hb⟩
end
theorem set_fill {α : Type} (x : α) (l : List α) (j : Nat) (h : j < l.length) : (List.replicate j x ++ l.drop j).set j x = List.replicate (j + 1) x ++ l.drop (j + 1) := by
  rw [List.set_append_right _ _ (by simp), List.length_replicate, Nat.sub_self, List.drop_eq_getElem_cons h, List.set_cons_zero, List.replicate_succ']
  simp
/-- xs[m:], whatever its room. -/
theorem cut_drop {P : Program} {α : Type} (d : Kd α) (t e : TypeId) {i : TypeInfo} (ht : P.underlying t = some (.slice e)) (hi : P.info? e = some i) (hsz : i.size = d.sz) (A : Option Addr) (c : Nat) (xs : List α) (j : Int) (m : Nat) (hj : j = m) (hm : m ≤ xs.length) (hc : xs.length ≤ c) :
    ∃ A', (∀ W : World, (Instr.slice t (.slice A xs.length c) (some (.int .i64 j)) none none).run P W = .ok (.slice A' (xs.drop m).length (c - m)) W) ∧ ∀ w, d.C w A xs.length xs → d.C w A' (xs.drop m).length (xs.drop m) := by
  subst hj
  refine ⟨if c = m then A else A.map (·.add (m * d.sz)), fun W => ?_, fun w h => Kd.C_drop h hm hc⟩
  have h := cut_from t e .i64 ht hi d.sz hsz A xs.length c (m : Int) (by omega) (by omega) W
  rw [Int.toNat_natCast] at h
  rw [h, List.length_drop]
/-- Two rows, of kinds of their own, that share no block. -/
structure TwoR {α β : Type} (d : Kd α) (e : Nat) (d' : Kd β) (e' : Nat) (w0 w : World) (u v : Value) (X : List α) (Y : List β) : Prop where
  a : RC d e w w0.heap.size u X
  b : RC d' e' w w0.heap.size v Y
  dj : disj u v
  bel : Below w0.heap.size w0 w
section
variable {α β : Type} {d : Kd α} {e : Nat} {d' : Kd β} {e' : Nat} {w0 w w1 : World} {u v u1 v1 : Value} {X X1 : List α} {Y Y1 : List β}
theorem TwoR.putA (h : TwoR d e d' e' w0 w u v X Y) (hE : d'.E = []) (hr : RC d e w1 w0.heap.size u1 X1) (hb : Below w0.heap.size w0 w1) (hg : w.grownBy w1 u.ownBlock) (hat : u1.ownBlock = u.ownBlock ∨ ∃ b, u1.ownBlock = some b ∧ w.heap.size ≤ b) : TwoR d e d' e' w0 w1 u1 v X1 Y := by
  refine ⟨hr, h.b.grown hE hg (fun k hk => h.dj k hk), ?_, hb⟩
  rcases hat with hat | ⟨b, hb1, hb2⟩
  · intro k hk; exact h.dj k (hat ▸ hk)
  · exact h.b.disj_new hb1 hb2
/-- The second row is made anew. -/
theorem TwoR.newB (h : TwoR d e d' e' w0 w u v X Y) (hr : RC d' e' w1 w.heap.size v1 Y1) (hb : Below w.heap.size w w1) : TwoR d e d' e' w0 w1 u v1 X Y1 :=
  ⟨h.a.below hb, hr.lower h.bel.size, (h.a.disj_later hr).symm, below_next h.bel hb⟩
theorem TwoR.below (h : TwoR d e d' e' w0 w u v X Y) (hb : Below w.heap.size w w1) : TwoR d e d' e' w0 w1 u v X Y := ⟨h.a.below hb, h.b.below hb, h.dj, below_next h.bel hb⟩
end
end Go.Proofs.YtcikcnkhcfhomaaDoor.Hand
/- Contracts: plan.Cut and the document's, by what they answer; the errors of a row that lists other variables too. -/
namespace Go.Proofs.YtcikcnkhcfhomaaDoor.Hand
open Go.ChangeShapes
open Go.RowKit Go.Proofs.YtcikcnkhcfhomaaDoorW.PrintWords Go.Proofs.YtcikcnkhcfhomaaDoorW.PrintMore Go.Proofs.YtcikcnkhcfhomaaDoor.Math

theorem laid_errsF (p : String × DataW Unit → Bool) {l : List (String × DataW Unit)} {W : World} (h : laidMetH Tryd.prog l W) (hp : (l.all fun x => x.2.handleName?.isNone) = true)
    (hp2 : ((l.filter p).all fun x => x.2.handleName?.isNone) = true)
    (hall : ((l.filter p).all fun x => sentB x.2 && (((Tryd.prog.globalNamed x.1).bind fun g => (Tryd.prog.globals[g]?).map (·.type)) == some 25)) = true)
    (hn : (l.filter p).map (fun x => Tryd.prog.globalNamed x.1) = GE.map some) : ∃ A, Errs W A := by
  rw [MakeChecks.laidMetH_plain _ _ _ hp] at h
  exact laid_errs' (l := l.filter p) (by rw [MakeChecks.laidMetH_plain _ _ _ hp2]; exact h.filter p) hp2 hall hn
/-- The pieces, or none. -/
def cutR (n : Int) (l : List Int) : List (Int × Int) := if cutE n l = 0 then cutL n 0 l else []
theorem cutR_len (n : Int) (l : List Int) : (cutR n l).length ≤ 65537 := by
  unfold cutR
  split
  · rename_i h
    rw [cutL_length]
    unfold cutE at h
    split at h
    · cases h
    · omega
  · simp
theorem cutX_calls (n : Int) (A : Option Addr) (c : Nat) (l : List Int) (w : World) (Ae : Nat → Addr) (hE : ErrsL [0, 7] w Ae) (hr : Kd.C (Kd.int .i64) w A l.length l) (hl : l.length ≤ 17592186044415) :
    Calls Tryd.prog 21 #[.int .i64 n, .slice A l.length c] w fun e w' => ∃ v ev, e = .returned (.tuple #[v, ev]) ∧ RC K2 44 w' w.heap.size v (cutR n l) ∧ ErrV w' Ae ev (cutE n l) (-1) ∧ Below w.heap.size w w' := by
  refine (cut_calls n A c l w Ae hE hr hl).mono ?_
  rintro e w' ⟨hb, ⟨k, hk, rfl⟩ | ⟨h0, B, d, rfl, hR⟩⟩
  · refine ⟨_, _, rfl, ?_, ?_, hb⟩
    · unfold cutR; rw [if_neg (by omega)]; exact RC.nil
    · rw [hk]
      refine .sent k ?_
      unfold cutE at hk
      split at hk
      · omega
      · split at hk <;> omega
  · refine ⟨_, _, rfl, ?_, ?_, hb⟩
    · unfold cutR; rw [if_pos h0]; exact RC.cut hR
    · rw [h0]; exact .none
set_option maxHeartbeats 2000000 in
set_option maxRecDepth 20000 in
theorem refCut_calls (n : Int) (A : Option Addr) (c : Nat) (l : List Int) (w : World) (hr : Kd.C (Kd.int .i64) w A l.length l) :
    Calls Tryd.prog 22 #[.int .i64 n, .slice A l.length c] w fun e w' => ∃ v, e = .returned (.tuple #[v, .int .i64 (cutE n l : Nat)]) ∧ RC K2 44 w' w.heap.size v (cutR n l) ∧ Below w.heap.size w w' := by
  have HR := Lib.hid hr
  have hlen := hr.2.1
  clear hr
  have no : Hid (∀ k, cutE n l = k + 1 → ∀ W, RC K2 44 W w.heap.size (.slice none 0 0) (cutR n l)) := Lib.hid (fun k hk W => by unfold cutR; rw [if_neg (by omega)]; exact RC.nil)
  by_cases h1 : n < 0 ∨ 65536 < n ∨ 65536 < l.length
  · have HO : Hid (cutE n l = 0 + 1) := Lib.hid (by unfold cutE; rw [if_pos h1])
    have hcase : (n < 0) ∨ (¬ n < 0 ∧ 65536 < n) ∨ (¬ n < 0 ∧ ¬ 65536 < n ∧ (65536 : Int) < (l.length : Int)) := by omega
    clear h1
    rcases hcase with h2 | ⟨h2, h3⟩ | ⟨h2, h3, h4⟩
    all_goals
      go_enter Tryd.func22, Tryd.ntmps22
      go_wp2
      go_ret2
      exact ⟨_, by rw [HO.out]; rfl, no.out 0 HO.out _, Below.refl _ _⟩
  · have h2 : ¬ n < 0 := by omega
    have h3 : ¬ 65536 < n := by omega
    have h4 : ¬ (65536 : Int) < (l.length : Int) := by omega
    have hl4 : l.length ≤ 65536 := by omega
    have HV : Hid (cutE n l = if cutOk n 0 l then 0 else 8) := Lib.hid (by unfold cutE; rw [if_neg h1])
    have HJ : Hid (CSt w w n l 0 (.slice none 0 0) 0 []) := Lib.hid ⟨by simp, by simp, rfl, Kd.R_nil _ _ _ _ _, Below.refl _ _⟩
    clear h1
    go_enter Tryd.func22, Tryd.ntmps22
    go_wp2
    go_loopw [6, 7, 8] (fun uu f x wr => ∃ (j : Nat) (y : Int) (done : List (Int × Int)) (u : Value), f = .int .i64 y ∧ x = .int .i64 j ∧ j ≤ l.length ∧ u = uu ∧ Hid (CSt w wr n l j u y done)) (fun _ _ x _ => l.length - (intOf x).toNat)
    case atStart => exact ⟨0, 0, _, _, rfl, rfl, by omega, rfl, HJ⟩
    case round =>
      obtain ⟨j, f, done, u, rfl, rfl, hj, rfl, HS⟩ := hrel
      obtain ⟨wo, rfl⟩ : ∃ wo : World, wo = wr := ⟨_, rfl⟩
      by_cases hlt : j < l.length
      · obtain ⟨ad, t, rfl, hc, HY⟩ := at_nat (Kd.C_below HR.out HS.out.bel) j hlt
        have HD : Hid (l.drop j = t :: l.drop (j + 1)) := Lib.hid (by
          rw [List.drop_eq_getElem_cons hlt]
          congr 1
          have := HY.out
          rw [List.getD_eq_getElem?_getD, List.getElem?_eq_getElem hlt] at this
          simpa using this)
        by_cases ht0 : t < f
        · have HO : Hid (cutE n l = 7 + 1) := Lib.hid (by rw [HV.out, HS.out.ok, HD.out, cutOk]; simp; omega)
          go_wp2
          go_ret2
          exact ⟨_, by rw [HO.out]; rfl, no.out 7 HO.out _, HS.out.bel⟩
        · by_cases ht1 : n < t
          · have HO : Hid (cutE n l = 7 + 1) := Lib.hid (by rw [HV.out, HS.out.ok, HD.out, cutOk]; simp; omega)
            go_wp2
            go_ret2
            exact ⟨_, by rw [HO.out]; rfl, no.out 7 HO.out _, HS.out.bel⟩
          · go_wp2_with ((with_reducible refine gate_builtin (b := .append) (xs := #[.tmp 40, .tmp 47]) rfl ?_); at_builtin; go_loud (refine Kd.R_append K2 (w0 := w) w.heap.size rfl (.tmp 40) (.tmp 47) 37 44 (.agg #[.int .i64 0, .int .i64 0]) 16 rfl Tryd.underlying37 info2i rfl (by decide) (by omega) u done (f, t) [.int .i64 f, .int .i64 t] (fun _ => True) (fun _ => False) rfl rfl ⟨[.int .i64 f], [.int .i64 t], rfl, rfl, rfl⟩ (fun _ hk => hk.elim) (fun _ _ => trivial) HS.out.own HS.out.bel HS.out.bel.size (by have := HS.out.dl; omega) ?_); intro v1 w6 ho hb hg hat; (have H6 := Lib.hid (CSt.next HS.out HD.out ht0 ht1 ho hb); have hc2 : w6.cell? (ad.add j) = some (.int .i64 t) := (by obtain ⟨ad', t', ea, h7, HY2⟩ := at_nat (Kd.C_below HR.out hb) j hlt; have e1 := Option.some.inj ea; have e2 := HY2.out.symm.trans HY.out; rw [e1, ← e2]; exact h7); clear ho hb hg hat))
            go_roundw
            case rel => exact ⟨j + 1, t, _, _, rfl, by go_num, by omega, rfl, H6⟩
            case measure => simp [intOf]; omega
      · obtain rfl : j = l.length := by omega
        have hd : l.drop l.length = [] := List.drop_of_length_le (by omega)
        have HO : Hid (cutE n l = 0) := Lib.hid (by rw [HV.out, HS.out.ok, hd, cutOk]; rfl)
        have HQ : Hid (cutL n 0 l = done ++ [(f, n)]) := Lib.hid (by rw [HS.out.eq, hd, cutL])
        go_wp2_with ((with_reducible refine gate_builtin (b := .append) (xs := #[.tmp 53, .tmp 57]) rfl ?_); at_builtin; go_loud (refine Kd.R_append K2 (w0 := w) w.heap.size rfl (.tmp 53) (.tmp 57) 37 44 (.agg #[.int .i64 0, .int .i64 0]) 16 rfl Tryd.underlying37 info2i rfl (by decide) (by omega) u done (f, n) [.int .i64 f, .int .i64 n] (fun _ => True) (fun _ => False) rfl rfl ⟨[.int .i64 f], [.int .i64 n], rfl, rfl, rfl⟩ (fun _ hk => hk.elim) (fun _ _ => trivial) HS.out.own HS.out.bel HS.out.bel.size (by have := HS.out.dl; omega) ?_); intro v1 w6 ho hb hg hat; (rw [← HQ.out] at ho; have HB6 := Lib.hid hb; have HO6 := Lib.hid ho; clear ho hb hg hat))
        go_ret2
        exact ⟨_, by rw [HO.out]; rfl, by unfold cutR; rw [if_pos HO.out]; exact RC.of_R HO6.out, HB6.out⟩
end Go.Proofs.YtcikcnkhcfhomaaDoor.Hand
/- Kinds of my own: elements that may be the mark, rows lent with a mark behind them, rules, grammars. -/
namespace Go.Proofs.YtcikcnkhcfhomaaDoor.Hand
open Go.RowKit Go.Proofs.YtcikcnkhcfhomaaDoorW.PrintWords Go.Proofs.YtcikcnkhcfhomaaDoorW.PrintMore Go.Proofs.YtcikcnkhcfhomaaDoor.Math

/-- Elements of a kind, or the mark: these cells. -/
def KOpt {α : Type} (a : Kd α) (c : List Value) (hc : c.length = a.sz) (h1 : ∀ u ∈ c, u.oneCell' = true) : Kd (Option α) where
  sz := a.sz
  E := a.E
  K := fun w x cs => match x with | none => cs = c | some y => a.K w y cs
  M := fun w base ok x cs => match x with | none => cs = c | some y => a.M w base ok y cs
  K_len := by
    intro w x cs h
    cases x with
    | none => exact (show cs = c from h) ▸ hc
    | some y => exact a.K_len h
  K_one := by
    intro w x cs h u hu
    cases x with
    | none => exact h1 u ((show cs = c from h) ▸ hu)
    | some y => exact a.K_one h u hu
  K_below := by
    intro w w1 x cs hb h
    cases x with
    | none => exact h
    | some y => exact a.K_below hb h
  K_of_M := by
    intro w base ok x cs h
    cases x with
    | none => exact h
    | some y => exact a.K_of_M h
  M_mono := by
    intro w base ok ok' x cs hok h
    cases x with
    | none => exact h
    | some y => exact a.M_mono hok h
  M_bound := by
    intro w base ok x cs h
    cases x with
    | none => exact h
    | some y => exact a.M_bound h
  M_move := by
    intro w w1 base ok x cs hm h
    cases x with
    | none => exact h
    | some y => exact a.M_move hm h
  M_lower := by
    intro w base base' ok x cs hb h
    cases x with
    | none => exact h
    | some y => exact a.M_lower hb h
/-- A slice over a row that is one longer: the last element is the mark. -/
def KLent {α : Type} (e : Nat) (a : Kd (Option α)) : Kd (List α) where
  sz := 1
  E := e :: a.E
  K := fun w xs cs => ∃ A c, cs = [.slice A xs.length c] ∧ xs.length + 1 ≤ c ∧ a.C w A (xs.length + 1) (xs.map some ++ [none])
  M := fun w base ok xs cs => ∃ A c, cs = [.slice A xs.length c] ∧ xs.length + 1 ≤ c ∧ a.R e w base ok (.slice A (xs.length + 1) c) (xs.map some ++ [none])
  K_len := by rintro w x cs ⟨A, c, rfl, _⟩; rfl
  K_one := by
    rintro w x cs ⟨A, c, rfl, _⟩ u hu
    rw [List.mem_singleton.1 hu]; rfl
  K_below := by rintro w w1 x cs hb ⟨A, c, rfl, hl, hr⟩; exact ⟨A, c, rfl, hl, Kd.C_below hr hb⟩
  K_of_M := by
    rintro w base ok x cs ⟨A, c, rfl, hl, h⟩
    have := (Kd.R_reads' h).2.2
    exact ⟨A, c, rfl, hl, by simpa using this⟩
  M_mono := by rintro w base ok ok' x cs hok ⟨A, c, rfl, hl, h⟩; exact ⟨A, c, rfl, hl, Kd.R_mono h hok⟩
  M_bound := by rintro w base ok x cs ⟨A, c, rfl, hl, h⟩; exact ⟨A, c, rfl, hl, Kd.R_bound h⟩
  M_move := by rintro w w1 base ok x cs hm ⟨A, c, rfl, hl, h⟩; exact ⟨A, c, rfl, hl, Kd.R_move h hm⟩
  M_lower := by rintro w base base' ok x cs hb ⟨A, c, rfl, hl, h⟩; exact ⟨A, c, rfl, hl, Kd.R_lower h hb⟩
theorem C_imp {α β : Type} {a : Kd α} {b : Kd β} (hs : b.sz = a.sz) {w : World} {A : Option Addr} {n : Nat} {l : List α} {m : List β} (h : a.C w A n l) (hl : m.length = l.length) (hi : ∀ (j : Nat) (x : α) (y : β) (cs : List Value), l[j]? = some x → m[j]? = some y → a.K w x cs → b.K w y cs) : b.C w A n m := by
  obtain ⟨h1, h2, h3⟩ := h
  refine ⟨hl.trans h1, h2, fun hn => ?_⟩
  obtain ⟨ad, ha, hc⟩ := h3 hn
  refine ⟨ad, ha, fun j p hj => ?_⟩
  have hj2 : j < l.length := by have := (List.getElem?_eq_some_iff.1 hj).1; omega
  obtain ⟨c, e1, e2, e3⟩ := hc j l[j] (List.getElem?_eq_getElem hj2)
  exact ⟨c, by rw [hs]; exact e1, hi j _ _ c (List.getElem?_eq_getElem hj2) hj e2, by rw [hs]; exact e3⟩
theorem C_some {α : Type} {a : Kd α} {b : Kd (Option α)} (hs : b.sz = a.sz) {w : World} {A : Option Addr} {n : Nat} {l : List α} (h : a.C w A n l) (hi : ∀ (x : α) (cs : List Value), a.K w x cs → b.K w (some x) cs) : b.C w A n (l.map some) :=
  C_imp (a := a) (b := b) hs h (by simp) (fun j x y cs hx hy hk => by
    rw [List.getElem?_map, hx] at hy
    cases hy
    exact hi _ _ hk)
/-- What was lent reads as a list. -/
theorem lent_C {α : Type} {a : Kd α} {c hc h1} {w : World} {A : Option Addr} {l : List α} (h : (KOpt a c hc h1).C w A (l.length + 1) (l.map some ++ [none])) : a.C w A l.length l := by
  have h2 : (KOpt a c hc h1).C w A (l.map some).length (l.map some) := Kd.C_takeN h
  rw [List.length_map] at h2
  refine C_imp (a := KOpt a c hc h1) (b := a) rfl h2 (by simp) (fun j x y cs hx hy hk => ?_)
  rw [List.getElem?_map, hy] at hx
  cases hx
  exact hk
/-- The mark's cells. -/
theorem lent_mark {α : Type} {a : Kd α} {c hc h1} {w : World} {A : Option Addr} {l : List α} (h : (KOpt a c hc h1).C w A (l.length + 1) (l.map some ++ [none])) : ∃ ad, A = some ad ∧ ∀ i u, c[i]? = some u → w.cell? (ad.add (l.length * a.sz + i)) = some u := by
  obtain ⟨_, _, h3⟩ := h
  obtain ⟨ad, ha, hcc⟩ := h3 (by omega)
  refine ⟨ad, ha, ?_⟩
  obtain ⟨cs, e1, e2, e3⟩ := hcc l.length none (by simp)
  have : cs = c := e2
  subst this
  exact e3
/-- A rule: its left side, and its right side as a slice. -/
def KRule : Kd (Int × List Int) := Kd.pair (Kd.int .i64) (Kd.slice 3 (Kd.int .i64))
def KMInt : Kd (Option Int) := KOpt (Kd.int .i64) [.int .i64 (-7171)] rfl (by simp [Value.oneCell'])
def KLInts : Kd (List Int) := KLent 3 KMInt
def KMString : Kd (Option ByteArray) := KOpt Kd.string [.string ⟨#[109, 97, 114, 107]⟩] rfl (by simp [Value.oneCell'])
def KLStrings : Kd (List ByteArray) := KLent 9 KMString
def KLRule : Kd (Int × List Int) := Kd.pair (Kd.int .i64) KLInts
def KMRule : Kd (Option (Int × List Int)) := KOpt KLRule [.int .i64 (-7171), .slice none 0 0] rfl (by simp [Value.oneCell'])
theorem KLInts_plain {w : World} {l : List Int} {cs : List Value} (h : KLInts.K w l cs) : (Kd.slice 3 (Kd.int .i64)).K w l cs := by
  obtain ⟨A, c, rfl, hl, hr⟩ := h
  exact ⟨A, c, rfl, by omega, lent_C hr⟩
theorem KLRule_plain {w : World} {r : Int × List Int} {cs : List Value} (h : KLRule.K w r cs) : KRule.K w r cs := by
  obtain ⟨c0, c1, rfl, h0, h1⟩ := h
  exact ⟨c0, c1, rfl, h0, KLInts_plain h1⟩
theorem lentRules_C {w : World} {A : Option Addr} {l : List (Int × List Int)} (h : KMRule.C w A (l.length + 1) (l.map some ++ [none])) : KRule.C w A l.length l :=
  C_imp (a := KLRule) (b := KRule) rfl (lent_C (a := KLRule) h) rfl (fun j x y cs hx hy hk => by rw [hx] at hy; cases hy; exact KLRule_plain hk)
/-- A grammar, plainly. -/
structure Gr where
  terms : List ByteArray
  nonterms : List ByteArray
  ax : Int
  rules : List (Int × List Int)
/-- A grammar's value, and what it leads to. -/
def GramAt (w : World) (v : Value) (g : Gr) : Prop :=
  ∃ AT cT AN cN AR cR, v = .agg #[.slice AT g.terms.length cT, .slice AN g.nonterms.length cN, .int .i64 g.ax, .slice AR g.rules.length cR] ∧ g.terms.length ≤ cT ∧ g.nonterms.length ≤ cN ∧ g.rules.length ≤ cR ∧
    Kd.C Kd.string w AT g.terms.length g.terms ∧ Kd.C Kd.string w AN g.nonterms.length g.nonterms ∧ KRule.C w AR g.rules.length g.rules
/-- A grammar that was lent: marks behind all its lists. -/
def GramL (w : World) (v : Value) (g : Gr) : Prop :=
  ∃ AT cT AN cN AR cR, v = .agg #[.slice AT g.terms.length cT, .slice AN g.nonterms.length cN, .int .i64 g.ax, .slice AR g.rules.length cR] ∧ g.terms.length + 1 ≤ cT ∧ g.nonterms.length + 1 ≤ cN ∧ g.rules.length + 1 ≤ cR ∧
    KMString.C w AT (g.terms.length + 1) (g.terms.map some ++ [none]) ∧ KMString.C w AN (g.nonterms.length + 1) (g.nonterms.map some ++ [none]) ∧ KMRule.C w AR (g.rules.length + 1) (g.rules.map some ++ [none])
theorem GramAt.below {w w' : World} {v : Value} {g : Gr} (h : GramAt w v g) (hb : Below w.heap.size w w') : GramAt w' v g := by
  obtain ⟨AT, cT, AN, cN, AR, cR, rfl, h1, h2, h3, h4, h5, h6⟩ := h
  exact ⟨AT, cT, AN, cN, AR, cR, rfl, h1, h2, h3, Kd.C_below h4 hb, Kd.C_below h5 hb, Kd.C_below h6 hb⟩
theorem GramL.below {w w' : World} {v : Value} {g : Gr} (h : GramL w v g) (hb : Below w.heap.size w w') : GramL w' v g := by
  obtain ⟨AT, cT, AN, cN, AR, cR, rfl, h1, h2, h3, h4, h5, h6⟩ := h
  exact ⟨AT, cT, AN, cN, AR, cR, rfl, h1, h2, h3, Kd.C_below h4 hb, Kd.C_below h5 hb, Kd.C_below h6 hb⟩
theorem GramL.plain {w : World} {v : Value} {g : Gr} (h : GramL w v g) : GramAt w v g := by
  obtain ⟨AT, cT, AN, cN, AR, cR, rfl, h1, h2, h3, h4, h5, h6⟩ := h
  exact ⟨AT, cT, AN, cN, AR, cR, rfl, by omega, by omega, by omega, lent_C h4, lent_C h5, lentRules_C h6⟩
theorem GramAt.drewN {w : World} {v : Value} {g : Gr} (h : GramAt w v g) (n : Nat) : GramAt (w.drewN n) v g := h.below (pw_below_drewN (Below.refl _ _) _)
theorem GramL.drewN {w : World} {v : Value} {g : Gr} (h : GramL w v g) (n : Nat) : GramL (w.drewN n) v g := h.below (pw_below_drewN (Below.refl _ _) _)
theorem add_field (a : Addr) (n f : Nat) : a.add (n + (f + 1)) = ⟨(a.add n).block, (a.add n).off + (f + 1), none⟩ := by
  unfold Addr.add
  by_cases h : n = 0
  · subst h; simp
  · simp [h]; omega
/-- What is read of rule i. -/
theorem at_rule {w : World} {A : Option Addr} {l : List (Int × List Int)} (h : KRule.C w A l.length l) (i : Nat) (hi : i < l.length) :
    ∃ (ad : Addr) (x : Int) (B : Option Addr) (c : Nat) (r : List Int), A = some ad ∧ w.cell? (ad.add (i * 2)) = some (.int .i64 x) ∧ w.cell? ⟨(ad.add (i * 2)).block, (ad.add (i * 2)).off + 1, none⟩ = some (.slice B r.length c) ∧ r.length ≤ c ∧ Kd.C (Kd.int .i64) w B r.length r ∧ Hid (l.getD i (0, []) = (x, r)) := by
  obtain ⟨ad, cs, h1, h2, h3, h4⟩ := h.get_ (0, []) (i : Int) (by omega) (by omega)
  rw [Int.toNat_natCast] at h3 h4
  obtain ⟨c0, c1, rfl, k0, B, c, rfl, hl, hr⟩ := h3
  have e0 : c0 = [.int .i64 (l.getD i (0, [])).1] := k0
  subst e0
  have hz : KRule.sz = 2 := rfl
  rw [hz] at h4
  refine ⟨ad, (l.getD i (0, [])).1, B, c, (l.getD i (0, [])).2, h1, ?_, ?_, hl, hr, Lib.hid rfl⟩
  · have := h4 0 _ rfl; simpa using this
  · rw [← add_field]; exact h4 1 _ rfl
theorem at_lrule {w : World} {A : Option Addr} {l : List (Int × List Int)} (h : KMRule.C w A (l.length + 1) (l.map some ++ [none])) (i : Nat) (hi : i < l.length) :
    ∃ (ad : Addr) (x : Int) (B : Option Addr) (c : Nat) (r : List Int), A = some ad ∧ w.cell? (ad.add (i * 2)) = some (.int .i64 x) ∧ w.cell? ⟨(ad.add (i * 2)).block, (ad.add (i * 2)).off + 1, none⟩ = some (.slice B r.length c) ∧ r.length + 1 ≤ c ∧ KMInt.C w B (r.length + 1) (r.map some ++ [none]) ∧ Hid (l.getD i (0, []) = (x, r)) := by
  have h' : KLRule.C w A l.length l := lent_C (a := KLRule) h
  obtain ⟨ad, cs, h1, h2, h3, h4⟩ := h'.get_ (0, []) (i : Int) (by omega) (by omega)
  rw [Int.toNat_natCast] at h3 h4
  obtain ⟨c0, c1, rfl, k0, B, c, rfl, hl, hr⟩ := h3
  have e0 : c0 = [.int .i64 (l.getD i (0, [])).1] := k0
  subst e0
  have hz : KLRule.sz = 2 := rfl
  rw [hz] at h4
  refine ⟨ad, (l.getD i (0, [])).1, B, c, (l.getD i (0, [])).2, h1, ?_, ?_, hl, hr, Lib.hid rfl⟩
  · have := h4 0 _ rfl; simpa using this
  · rw [← add_field]; exact h4 1 _ rfl
end Go.Proofs.YtcikcnkhcfhomaaDoor.Hand
/- Contracts of dovetailkit: are two lists the same? -/
namespace Go.Proofs.YtcikcnkhcfhomaaDoor.Hand
open Go.RowKit Go.Proofs.YtcikcnkhcfhomaaDoorW.PrintWords Go.Proofs.YtcikcnkhcfhomaaDoorW.PrintMore Go.Proofs.YtcikcnkhcfhomaaDoor.Math

/-- Are two lists the same? -/
theorem ints_calls (A B : Option Addr) (c d : Nat) (l m : List Int) (w : World) (hr : Kd.C (Kd.int .i64) w A l.length l) (hq : Kd.C (Kd.int .i64) w B m.length m) : Quiet 18 #[.slice A l.length c, .slice B m.length d] w (.bool (decide (l = m))) := by
  unfold Quiet
  have hlen := hr.2.1
  have hlen2 := hq.2.1
  have HR := Lib.hid hr
  have HQ := Lib.hid hq
  clear hr hq
  by_cases hl : l.length = m.length
  · have hlI : ((l.length : Int) == (m.length : Int)) = true := by simp [hl]
    have HL := Lib.hid hl
    go_enter Tryd.func18, Tryd.ntmps18
    go_wp2
    go_loopw [5] (fun i wr => ∃ (j d : Nat), j ≤ l.length ∧ i = .int .i64 j ∧ wr = w.drewN d ∧ Hid (l.take j = m.take j)) (fun i _ => l.length - (intOf i).toNat)
    case atStart => exact ⟨0, 0, by omega, rfl, rfl, Lib.hid (by simp)⟩
    case round =>
      obtain ⟨j, d, hj, rfl, rfl, HT⟩ := hrel
      by_cases hlt : j < l.length
      · obtain ⟨ad, y, rfl, hc, HY⟩ := at_scalar HR.out j hlt 0
        obtain ⟨ad2, y2, rfl, hc2, HY2⟩ := at_scalar HQ.out j (by omega) 0
        have hlt2 : j < m.length := by omega
        by_cases e : y = y2
        · subst e
          go_wp2
          go_quiet (fail)
          go_wp2
          go_roundw
          case rel => exact ⟨j + 1, _, by omega, by go_num, rfl, Lib.hid (by rw [take_snocD l j 0 hlt, take_snocD m j 0 hlt2, HT.out, HY.out, HY2.out])⟩
          case measure => simp [intOf]; omega
        · have HE : Hid (decide (l = m) = false) := Lib.hid (decide_eq_false (fun h => e (by rw [← HY.out, ← HY2.out, h])))
          have HN := Lib.hid e
          have hn : ((y : Int) == y2) = false := by simpa using e
          clear e
          go_wp2
          go_quiet (fail)
          go_wp2
          go_ret
          exact ⟨ret_bool HE.out.symm, _, World.drewN_drewN _ _ _⟩
      · have HE : Hid (decide (l = m) = true) := Lib.hid (decide_eq_true (by
          have := HT.out
          rwa [List.take_of_length_le (by omega), List.take_of_length_le (by have := HL.out; omega)] at this))
        go_wp2
        go_ret
        exact ⟨ret_bool HE.out.symm, _, rfl⟩
  · have HE : Hid (decide (l = m) = false) := Lib.hid (decide_eq_false (fun h => hl (by rw [h])))
    have hlI : ((l.length : Int) == (m.length : Int)) = false := by simp; omega
    have hlN : decide (l.length = m.length) = false := by simp [hl]
    have HL := Lib.hid hl
    clear hl
    go_enter Tryd.func18, Tryd.ntmps18
    go_wp2
    go_ret
    exact ⟨ret_bool HE.out.symm, 0, rfl⟩
end Go.Proofs.YtcikcnkhcfhomaaDoor.Hand
/- Contracts of dovetailkit's lent and kept lists, rules, grammars. -/
namespace Go.Proofs.YtcikcnkhcfhomaaDoor.Hand
open Go.RowKit Go.Proofs.YtcikcnkhcfhomaaDoorW.PrintWords Go.Proofs.YtcikcnkhcfhomaaDoorW.PrintMore Go.Proofs.YtcikcnkhcfhomaaDoor.Math

theorem lentInts_calls (A0 : Option Addr) (c0 : Nat) (l0 : List Int) (w : World) (hr0 : Kd.C (Kd.int .i64) w A0 l0.length l0) (hl : (l0.length + 1) * 8 ≤ 140737488355328) :
    Calls Tryd.prog 20 #[.slice A0 l0.length c0] w fun e w' => ∃ A c, e = .returned (.slice A l0.length c) ∧ l0.length + 1 ≤ c ∧ KMInt.R 3 w' w.heap.size (fun _ => True) (.slice A (l0.length + 1) c) (l0.map some ++ [none]) ∧ Below w.heap.size w w' := by
  have HR0 := Aside0.mk (C_some (a := (Kd.int .i64)) (b := KMInt) rfl hr0 (fun _ _ h => h))
  have HL := Aside0.mk hl
  clear hr0 hl
  have HB := Aside0.mk (Below.refl w.heap.size w)
  go_enter Tryd.func20, Tryd.ntmps20
  go_wp2_with (first
    | ((with_reducible refine gate_builtin (b := .append) (xs := #[.tmp 4, .tmp 5]) rfl ?_); at_builtin; refine Kd.R_append_rows KMInt (w0 := w) w.heap.size rfl (.tmp 4) (.tmp 5) 22 3 (.int .i64 0) 8 rfl Tryd.underlying22 infoInt rfl (by decide) (by omega) (.slice none 0 0) ([] : List (Option Int)) (l0.map some) _ _ _ (fun _ => True) (fun _ => False) rfl rfl (Kd.R_nil _ _ _ _ _) HR0.out (fun _ _ h => h) (fun _ h => h.elim) (fun _ _ => trivial) HB.out (Nat.le_refl _) (by have := HL.out; simp at this ⊢; omega) ?_; intro v1 w1 ho hb _ _; have HO := Aside0.mk ho; have HB1 := Aside0.mk hb; clear ho hb)
    | ((with_reducible refine gate_builtin (b := .append) (xs := #[.tmp 7, .tmp 8]) rfl ?_); at_builtin; refine Kd.R_append KMInt (w0 := w) w.heap.size rfl (.tmp 7) (.tmp 8) 22 3 (.int .i64 0) 8 rfl Tryd.underlying22 infoInt rfl (by decide) (by omega) v1 ([] ++ l0.map some) none [.int .i64 (-7171)] (fun _ => True) (fun _ => False) rfl rfl rfl (fun _ hk => hk.elim) (fun _ _ => trivial) HO.out HB1.out (Below.size HB1.out) (by have := HL.out; simp at this ⊢; omega) ?_; intro v2 w2 ho hb _ _; have HO2 := Aside0.mk ho; have HB2 := Aside0.mk hb; clear ho hb; (obtain ⟨A, c, rfl⟩ := Kd.R_slice HO2.out; have hc : l0.length + 1 ≤ c := (by have := (Kd.R_reads' HO2.out).2.1; simpa using this); have hc2 : l0.length ≤ c := (by omega))))
  go_ret
  exact ⟨A, c, rfl, hc, by simpa using HO2.out, HB2.out⟩
theorem keptInts_calls (A B : Option Addr) (c d : Nat) (l : List Int) (w : World) (hv : KMInt.C w A (l.length + 1) (l.map some ++ [none])) (hc : l.length + 1 ≤ c) (hq : Kd.C (Kd.int .i64) w B l.length l) : Quiet 25 #[.slice A l.length c, .slice B l.length d] w (.bool true) := by
  unfold Quiet
  have hlen := hv.2.1
  obtain ⟨ad, rfl, hm⟩ := lent_mark (a := (Kd.int .i64)) hv
  have hcell : w.cell? (ad.add l.length) = some (.int .i64 (-7171)) := by simpa [show Kd.sz (Kd.int .i64) = 1 from rfl] using hm 0 _ rfl
  have HR := Lib.hid (lent_C (a := (Kd.int .i64)) hv)
  have HQ := Lib.hid hq
  clear hv hq hm
  go_enter Tryd.func25, Tryd.ntmps25
  go_wp2_with (go_at_call 18; refine (ints_calls (some ad) B c d l l _ HR.out HQ.out).mono ?_; rintro e w' ⟨rfl, n, rfl⟩; rw [decide_eq_true (show l = l from rfl)])
  go_ret
  exact ⟨rfl, _, rfl⟩
end Go.Proofs.YtcikcnkhcfhomaaDoor.Hand
/- A slice's head; lists by their elements. -/
namespace Go.Proofs.YtcikcnkhcfhomaaDoor.Hand
open Go.RowKit Go.Proofs.YtcikcnkhcfhomaaDoorW.PrintWords Go.Proofs.YtcikcnkhcfhomaaDoorW.PrintMore Go.Proofs.YtcikcnkhcfhomaaDoor.Math

theorem list_of {α : Type} {p : Nat → α → Prop} : ∀ {n : Nat} (_ : ∀ i, i < n → ∃ x, p i x), ∃ l : List α, l.length = n ∧ ∀ i x, l[i]? = some x → p i x
  | 0, _ => ⟨[], rfl, fun i x h => by simp at h⟩
  | n + 1, h => by
    obtain ⟨l, hl, hp⟩ := list_of (n := n) (fun i hi => h i (by omega))
    obtain ⟨x, hx⟩ := h n (by omega)
    refine ⟨l ++ [x], by simp [hl], fun i y hy => ?_⟩
    rcases Nat.lt_or_ge i l.length with hi | hi
    · rw [List.getElem?_append_left hi] at hy; exact hp i y hy
    · rw [List.getElem?_append_right hi] at hy
      have h0 : i - l.length = 0 := by
        rcases Nat.eq_zero_or_pos (i - l.length) with h | h
        · exact h
        · rw [List.getElem?_eq_none (by simp; omega)] at hy; cases hy
      rw [h0] at hy
      simp at hy
      subst hy
      have : i = n := by omega
      subst this
      exact hx
/-- A slice's head: where, how many, room. -/
structure Hd where
  ad : Option Addr
  n : Nat
  c : Nat
def Hd.v (h : Hd) : Value := .slice h.ad h.n h.c
end Go.Proofs.YtcikcnkhcfhomaaDoor.Hand
/- Arguments of whatever kind, opened: the reading of memory gives the plain datum that it spells. -/
namespace Go.Proofs.YtcikcnkhcfhomaaDoor.Hand
open Go.ChangeShapes Go.WideShapes Go.ChangeAt
open Go.RowKit Go.Proofs.YtcikcnkhcfhomaaDoorW.PrintWords Go.Proofs.YtcikcnkhcfhomaaDoorW.PrintMore Go.Proofs.YtcikcnkhcfhomaaDoor.Math

/-- Whatever reads by this type spells a datum of this kind. -/
def Opens {α : Type} (t : TypeId) (d : Kd α) (good : α → Prop) : Prop :=
  ∀ (H : Type) (enc : TypeId × Value → H) (W : World) (base : Nat) (spare : Nat → Bool) (held : Bool) (fuel : Nat) (cs : List Value) (x : DataW H × List MemPlace), DataW.trod enc Tryd.prog W base spare held fuel t cs = some x →
    (∀ n ∈ x.1.weights Tryd.prog t, n ≤ reachBytes) → ∃ a, d.K W a cs ∧ good a
theorem Opens.int {t : TypeId} {k : IntKind} (ht : Tryd.prog.underlying t = some (.int k)) : Opens t (Kd.int k) (fun a => (Lit.int k a).wf = true) := by
  intro H enc W base spare held fuel cs x h _
  obtain ⟨n, rfl, _, hw⟩ := DataW.trod_int ht h
  exact ⟨n, rfl, hw⟩
theorem Opens.string {t : TypeId} (ht : Tryd.prog.underlying t = some .string) : Opens t Kd.string (fun s => s.size ≤ 140737488351232) := by
  intro H enc W base spare held fuel cs x h hw
  obtain ⟨s, rfl, rfl, _⟩ := DataW.trod_string ht h
  refine ⟨s, rfl, ?_⟩
  have := hw s.data.toList.length (by simp [DataW.weights])
  simpa [reachBytes] using this
theorem weightsAll_mem {H : Type} {P : Program} {e : TypeId} {d : DataW H} {n : Nat} : ∀ {l : List (DataW H)}, d ∈ l → n ∈ d.weights P e → n ∈ DataW.weightsAll P e l
  | [], h, _ => by cases h
  | a :: r, h, hn => by
    simp only [DataW.weightsAll, List.mem_append]
    rcases List.mem_cons.1 h with rfl | h
    · exact .inl hn
    · exact .inr (weightsAll_mem h hn)
theorem Opens.slice {α : Type} {t e : TypeId} {B : Nat} {d : Kd α} {good : α → Prop} (ht : Tryd.prog.underlying t = some (.slice e)) (he : Opens e d good) (hc : Tryd.prog.cellsOf e = d.sz) (hB : Tryd.prog.bytesOf e = B) :
    Opens t (Kd.slice e d) (fun l => l.length * B ≤ 140737488351232 ∧ ∀ x ∈ l, good x) := by
  intro H enc W base spare held fuel cs x h hw
  rcases Deep.open_slice ht h with ⟨rfl, rfl⟩ | ⟨a, len, cap, m, n, D, Pl, rfl, hb, hl, hm, hmm, rfl, hx⟩
  · exact ⟨[], ⟨none, 0, rfl, Nat.le_refl _, Kd.C_nil d W⟩, by simp, fun x hx => absurd hx (List.not_mem_nil)⟩
  · have hlm : len ≤ m := by rw [hmm]; split <;> omega
    simp only [DataW.weights, ht] at hw
    have hw1 := hw _ (List.mem_cons_self ..)
    simp only [List.length_map, List.length_range] at hw1
    have hw2 : ∀ i, i < len → ∀ k ∈ (D i).weights Tryd.prog e, k ≤ reachBytes := fun i hi k hk =>
      hw k (List.mem_cons_of_mem _ (List.mem_append_left _ (weightsAll_mem (List.mem_map.2 ⟨i, List.mem_range.2 hi, rfl⟩) hk)))
    obtain ⟨l, hll, hp⟩ := list_of (n := len) (p := fun i p => good p ∧ ∃ cs', d.K W p cs' ∧ ∀ j u, cs'[j]? = some u → W.cell? (a.add (i * d.sz + j)) = some u) (fun i hi => by
      obtain ⟨cs', h1, h2⟩ := hx i (by omega)
      obtain ⟨p, hk, hg⟩ := he H enc W base spare held n cs' _ h2 (hw2 i hi)
      obtain ⟨_, hlen, hcell⟩ := World.cells?_some h1
      refine ⟨p, hg, cs', hk, fun j u hu => ?_⟩
      have hj : j < Tryd.prog.cellsOf e := by rw [← hlen]; exact (List.getElem?_eq_some_iff.1 hu).1
      have := hcell j hj
      rw [Deep.add_add, hu, hc] at this
      exact this)
    subst hll
    refine ⟨l, ⟨some a, cap, rfl, hl, rfl, ?_, fun _ => ⟨a, rfl, fun j p hj => ?_⟩⟩, ?_, fun x hx => ?_⟩
    · have : maxLen = 9223372036854775807 := by decide
      omega
    · obtain ⟨_, cs', hk, hcell⟩ := hp j p hj
      exact ⟨cs', d.K_len hk, hk, hcell⟩
    · rw [hB] at hw1
      have h3 : l.length * B ≤ (l.length + (m - l.length)) * B := Nat.mul_le_mul_right _ (by omega)
      have h4 : (reachBytes : Nat) = 140737488351232 := by decide
      omega
    · obtain ⟨i, hi⟩ := List.getElem?_of_mem hx
      exact (hp i x hi).1
theorem Opens.pair {α β : Type} {t : TypeId} {f0 f1 : Field} {a : Kd α} {b : Kd β} {ga : α → Prop} {gb : β → Prop} (ht : Tryd.prog.underlying t = some (.struct #[f0, f1])) (o0 : f0.offset = 0) (o1 : f1.offset = a.sz) (c0 : Tryd.prog.cellsOf f0.type = a.sz) (c1 : Tryd.prog.cellsOf f1.type = b.sz) (ct : Tryd.prog.cellsOf t = a.sz + b.sz)
    (h0 : Opens f0.type a ga) (h1 : Opens f1.type b gb) : Opens t (Kd.pair a b) (fun x => ga x.1 ∧ gb x.2) := by
  intro H enc W base spare held fuel cs x h hw
  obtain ⟨y0, y1, n, rfl, hl, k0, k1⟩ := trod_struct2 ht h
  simp only [DataW.weights, ht, List.map_cons, List.map_nil, DataW.weightsEach, List.append_nil] at hw
  rw [o0, c0, List.drop_zero] at k0
  rw [o1, c1] at k1
  obtain ⟨x0, q0, g0⟩ := h0 H enc W base spare held n _ _ k0 (fun n hn => hw n (List.mem_append_left _ hn))
  obtain ⟨x1, q1, g1⟩ := h1 H enc W base spare held n _ _ k1 (fun n hn => hw n (List.mem_append_right _ hn))
  refine ⟨(x0, x1), ⟨cs.take a.sz, (cs.drop a.sz).take b.sz, ?_, q0, q1⟩, g0, g1⟩
  rw [List.take_of_length_le (show (cs.drop a.sz).length ≤ b.sz by rw [List.length_drop, hl, ct]; omega), List.take_append_drop]
section
set_option maxRecDepth 20000
variable {H : Type} {enc : TypeId × Value → H} {W : World} {base : Nat} {r : Reach} {b0 : Nat} {spare : Nat → Bool} {held : Bool} {v : Value} {d : DataW H} {ps : List MemPlace} {ts : List TypeId} {ds : List (DataW H)} {j : Nat}

theorem openSlice {α : Type} {t e : TypeId} {B : Nat} {k : Kd α} {good : α → Prop} (hu : Tryd.prog.underlying t = some (.slice e)) (he : Opens e k good) (hc : Tryd.prog.cellsOf e = k.sz) (hB : Tryd.prog.bytesOf e = B)
    (hsz : (DataW.weightsEach Tryd.prog ts ds).all (· ≤ reachBytes) = true) (ht : ts[j]? = some t) (hd : ds[j]? = some d) (hv : Value.okWide Tryd.prog W r b0 t v) (h : DataW.Trod enc Tryd.prog W base spare held t v d ps) :
    ∃ (A : Option Addr) (c : Nat) (l : List α), v = .slice A l.length c ∧ k.C W A l.length l ∧ l.length * B ≤ 140737488351232 ∧ l.length ≤ c ∧ ∀ x ∈ l, good x := by
  obtain ⟨a, len, cap, rfl⟩ := okWide_slice hu hv
  obtain ⟨fuel, hf⟩ := h
  obtain ⟨l, ⟨A, c, hcs, hlc, hC⟩, hb, hg⟩ := (Opens.slice hu he hc hB) H enc W base spare held fuel _ _ hf (fun n hn => by
    have := List.all_eq_true.1 hsz n (DataW.weights_mem_each ht hd n hn)
    simpa using this)
  simp [Value.cells] at hcs
  obtain ⟨rfl, rfl, rfl⟩ := hcs
  exact ⟨_, _, l, rfl, hC, hb, hlc, hg⟩
theorem opens_i64 : Opens 3 (Kd.int .i64) (fun a => (Lit.int .i64 a).wf = true) := Opens.int Tryd.underlying3
theorem opens_ints : Opens 22 (Kd.slice 3 (Kd.int .i64)) (fun l => l.length * 8 ≤ 140737488351232 ∧ ∀ x ∈ l, (Lit.int .i64 x).wf = true) := Opens.slice Tryd.underlying22 opens_i64 (by kernel_rfl) (by kernel_rfl)
theorem openInts (hsz : (DataW.weightsEach Tryd.prog ts ds).all (· ≤ reachBytes) = true) (ht : ts[j]? = some 22) (hd : ds[j]? = some d) (hv : Value.okWide Tryd.prog W r b0 22 v) (h : DataW.Trod enc Tryd.prog W base spare held 22 v d ps) :
    ∃ (A : Option Addr) (c : Nat) (l : List Int), v = .slice A l.length c ∧ Kd.C (Kd.int .i64) W A l.length l ∧ l.length * 8 ≤ 140737488351232 ∧ l.length ≤ c ∧ ∀ x ∈ l, (Lit.int .i64 x).wf = true :=
  openSlice Tryd.underlying22 opens_i64 (by kernel_rfl) (by kernel_rfl) hsz ht hd hv h
theorem opens_strings : Opens 68 (Kd.slice 9 Kd.string) (fun l => l.length * 16 ≤ 140737488351232 ∧ ∀ x ∈ l, x.size ≤ 140737488351232) := Opens.slice Tryd.underlying68 (Opens.string Tryd.underlying9) (by kernel_rfl) (by kernel_rfl)
theorem openStrings (hsz : (DataW.weightsEach Tryd.prog ts ds).all (· ≤ reachBytes) = true) (ht : ts[j]? = some 68) (hd : ds[j]? = some d) (hv : Value.okWide Tryd.prog W r b0 68 v) (h : DataW.Trod enc Tryd.prog W base spare held 68 v d ps) :
    ∃ (A : Option Addr) (c : Nat) (l : List ByteArray), v = .slice A l.length c ∧ Kd.C Kd.string W A l.length l ∧ l.length * 16 ≤ 140737488351232 ∧ l.length ≤ c ∧ ∀ x ∈ l, x.size ≤ 140737488351232 :=
  openSlice Tryd.underlying68 (Opens.string Tryd.underlying9) (by kernel_rfl) (by kernel_rfl) hsz ht hd hv h
end
end Go.Proofs.YtcikcnkhcfhomaaDoor.Hand
/- PlanCuts: the pieces of all cuts. -/
namespace Go.Proofs.YtcikcnkhcfhomaaDoor.Hand
open Go.RowKit Go.Proofs.YtcikcnkhcfhomaaDoorW.PrintWords Go.Proofs.YtcikcnkhcfhomaaDoorW.PrintMore Go.Proofs.YtcikcnkhcfhomaaDoor.Math

theorem Quiet.mono {f : FuncId} {args : Array Value} {w : World} {v : Value} {Q : Ending → World → Prop} (h : Quiet f args w v) (k : ∀ e w', (e = .returned v ∧ ∃ n, w' = w.drewN n) → Q e w') : Calls Tryd.prog f args w Q := Calls.mono h k
theorem cutE_lt (n : Int) (l : List Int) : cutE n l < 16 := by unfold cutE; split <;> (try split) <;> omega
theorem lent_reads {e : Nat} {w : World} {base : Nat} {ok : Nat → Prop} {A : Option Addr} {c : Nat} {l : List Int} (h : KMInt.R e w base ok (.slice A (l.length + 1) c) (l.map some ++ [none])) : KMInt.C w A (l.length + 1) (l.map some ++ [none]) ∧ Kd.C (Kd.int .i64) w A l.length l := by
  have h1 := (Kd.R_reads' h).2.2
  have h2 : KMInt.C w A (l.length + 1) (l.map some ++ [none]) := by simpa using h1
  exact ⟨h2, lent_C (a := Kd.int .i64) h2⟩
theorem size2i : (Tryd.prog.info? 44).map (·.size) = some 2 := by
  obtain ⟨i, hi, hz⟩ := Option.map_eq_some_iff.1 info2i
  rw [hi]
  simp only [Prod.mk.injEq] at hz
  simp [hz.2.1]
theorem K2_E : K2.E = [] := rfl
set_option maxHeartbeats 4000000 in
set_option maxRecDepth 100000 in
theorem planCuts_walk {w : World} (n : Int) (hn : (Lit.int .i64 n).wf = true) (A : Option Addr) (c : Nat) (l : List Int) (y : Kd.C (Kd.int .i64) w A l.length l ∧ l.length * 8 ≤ 140737488351232 ∧ l.length ≤ c ∧ ∀ x ∈ l, (Lit.int .i64 x).wf = true) (hE : ∃ Ae, Errs w Ae) :
    Calls Tryd.prog 5 #[.int .i64 n, .slice A l.length c] w fun e w' => e = .returned (.bool true) ∧ Below w.heap.size w w' := by
  obtain ⟨Ae, hE⟩ := hE
  obtain ⟨hr, hl8, hlc, -⟩ := y
  have HE := Lib.hid hE
  have HR := Lib.hid hr
  have HL8 := Lib.hid hl8
  have HLe := Lib.hid (lentInts_calls A c l w hr (by omega))
  obtain ⟨L, hL⟩ : ∃ L, cutR n l = L := ⟨_, rfl⟩
  have hLl : L.length ≤ 65537 := by rw [← hL]; exact cutR_len n l
  obtain ⟨K, hK⟩ : ∃ K, cutE n l = K := ⟨_, rfl⟩
  have hK16 : K < 16 := by rw [← hK]; exact cutE_lt n l
  have HCut : Hid (∀ (B : Option Addr) (d : Nat) (W : World), Below w.heap.size w W → Kd.C (Kd.int .i64) W B l.length l → Calls Tryd.prog 21 #[.int .i64 n, .slice B l.length d] W fun e w' => ∃ v ev, e = .returned (.tuple #[v, ev]) ∧ RC K2 44 w' W.heap.size v L ∧ ErrV w' Ae ev K (-1) ∧ Below W.heap.size W w') := Lib.hid (fun B d W hW hC => by
    rw [← hL, ← hK]
    exact cutX_calls n B d l W Ae ((HE.out.below hW).someL _ (by decide)) hC (by omega))
  have HRef : Hid (∀ (W : World), Below w.heap.size w W → Calls Tryd.prog 22 #[.int .i64 n, .slice A l.length c] W fun e w' => ∃ v, e = .returned (.tuple #[v, .int .i64 (K : Nat)]) ∧ RC K2 44 w' W.heap.size v L ∧ Below W.heap.size W w') := Lib.hid (fun W hW => by
    rw [← hL, ← hK]
    exact refCut_calls n A c l W (Kd.C_below HR.out hW))
  clear hE hr hl8 hn hL hK
  go_enter Tryd.func5, Tryd.ntmps5
  go_upto_region 5 with (first
    | (go_at_call 20; refine HLe.out.mono ?_; rintro e w1 ⟨A1, c1, rfl, hq, hR1, hb⟩; have hlr := lent_reads hR1; have HI1 := Lib.hid hlr.1; have HB1 := Lib.hid hb; have HC1 := Lib.hid hlr.2; clear hR1 hb hlr)
    | (go_at_call 21; refine (HCut.out A1 c1 w2 (below_next HB1.out HB2.out) (Kd.C_below HC1.out HB2.out)).mono ?_; rintro e w3 ⟨v3, ev3, rfl, ho, he, hb⟩; have HO3 := Lib.hid ho; have HB3 := Lib.hid hb; clear ho he hb)
    | (go_at_call 21; refine (HCut.out A1 c1 w1 HB1.out HC1.out).mono ?_; rintro e w2 ⟨v2, ev2, rfl, ho, he, hb⟩; have HO2 := Lib.hid ho; have HV2 := Lib.hid he; have HB2 := Lib.hid hb; clear ho he hb)
    | (go_at_call 22; refine (HRef.out w3 (below_next (below_next HB1.out HB2.out) HB3.out)).mono ?_; rintro e w4 ⟨v4, rfl, ho, hb⟩; have HO4 := Lib.hid ho; have HB4 := Lib.hid hb; clear ho hb))
  have hs2 := HB2.out.size
  have hs3 := HB3.out.size
  have h24 : Below w2.heap.size w2 w4 := below_next HB3.out HB4.out
  have hT : Three K2 44 w1 w4 v2 v3 v4 L L L :=
    ⟨HO2.out.below h24, (HO3.out.below HB4.out).lower hs2, HO4.out.lower (by omega), (HO2.out.disj_later HO3.out).symm, ((HO2.out.below HB3.out).disj_later HO4.out).symm, (HO3.out.disj_later HO4.out).symm, below_next HB2.out h24⟩
  have HB14 := Lib.hid (below_next HB1.out hT.bel)
  have HT := Lib.hid hT
  obtain ⟨A2, c2, rfl, hlc2, hc2⟩ := hT.rl.reads
  obtain ⟨A3, c3, rfl, hlc3, hc3⟩ := hT.rm.reads
  obtain ⟨A4, c4, rfl, hlc4, hc4⟩ := hT.rn.reads
  have HV4 := Lib.hid (HV2.out.below h24)
  have HKd := Lib.hid (kind_calls (HE.out.below HB14.out) HV4.out)
  clear hT hc2 hc3 hc4 h24 hs2 hs3 HO2 HO3 HO4 HV2 HCut HRef HLe
  have HTw : Hid (∀ (B B' : Option Addr) (d d' : Nat) (W : World), K2.C W B L.length L → K2.C W B' L.length L → Quiet 24 #[.slice B L.length d, .slice B' L.length d'] W (.bool true)) := Lib.hid (fun B B' d d' W h1 h2 => by
    have := twos_calls B B' d d' L L W h1 h2
    rwa [decide_eq_true rfl] at this)
  have HKp : Hid (∀ W, Below w1.heap.size w1 W → Quiet 25 #[.slice A1 l.length c1, .slice A l.length c] W (.bool true)) := Lib.hid (fun W hW => keptInts_calls A1 A c1 c l W (Kd.C_below HI1.out hW) hq (Kd.C_below HR.out (below_next HB1.out hW)))
  go_upto_region 7 with (first
    | (go_at_call 23; refine HKd.out.mono ?_; rintro e w5 ⟨rfl, hb⟩; have HT5 := Lib.hid (HT.out.below hb); clear hb)
    | (go_at_call 24; (with_reducible refine (HTw.out A2 A4 c2 c4 w5 HT5.out.rl.C HT5.out.rn.C).mono ?_); rintro e w' ⟨rfl, n1, rfl⟩)
    | (go_at_call 24; (with_reducible refine (HTw.out A3 A4 c3 c4 (w5.drewN n1) (Kd.C_drewN HT5.out.rm.C n1) (Kd.C_drewN HT5.out.rn.C n1)).mono ?_); rintro e w' ⟨rfl, n2, rfl⟩)
    | (go_at_call 25; (refine (HKp.out _ (pw_below_drewN HT5.out.bel _)).mono ?_); rintro e w' ⟨rfl, n3, rfl⟩))
  obtain ⟨w6, hw6⟩ : ∃ w6, w5.drewN (n1 + n2 + n3) = w6 := ⟨_, rfl⟩
  rw [hw6]
  have HT6 : Hid (Three K2 44 w1 w6 (.slice A2 L.length c2) (.slice A3 L.length c3) (.slice A4 L.length c4) (List.replicate 0 (-7, -7) ++ L.drop 0) L L) := Lib.hid (by rw [← hw6]; simpa using HT5.out.below (pw_below_drewN (Below.refl _ _) _))
  clear hw6
  go_wp2
  go_loopw [12] (fun x wr => ∃ j : Nat, x = .int .i64 j ∧ j ≤ L.length ∧ Hid (Three K2 44 w1 wr (.slice A2 L.length c2) (.slice A3 L.length c3) (.slice A4 L.length c4) (List.replicate j (-7, -7) ++ L.drop j) L L)) (fun x _ => L.length - (intOf x).toNat)
  case atStart => exact ⟨0, rfl, by omega, HT6⟩
  case round =>
    obtain ⟨j, rfl, hj, HS⟩ := hrel
    obtain ⟨X, hX⟩ : ∃ X, List.replicate j ((-7 : Int), (-7 : Int)) ++ L.drop j = X := ⟨_, rfl⟩
    have hXl : X.length = L.length := by rw [← hX]; simp; omega
    have HXl := Lib.hid hXl
    by_cases hlt : j < L.length
    · have hset : X.set j (-7, -7) = List.replicate (j + 1) (-7, -7) ++ L.drop (j + 1) := by rw [← hX]; exact set_fill _ _ _ hlt
      have HSet := Lib.hid hset
      rw [hX] at HS
      have hs := HS.out.rl
      rw [← hXl] at hs
      obtain ⟨ad, x, y, rfl, hx, hy, -⟩ := at_K2 hs.C j (by omega)
      have HSl := Lib.hid hs
      clear hs hset hX hXl hx hy
      go_wp2_with (refine gate_ (.store 44 (.tmp 65) (.tmp 64)) rfl ?_; go_loud (refine RC_store K2 (w0 := w1) w1.heap.size rfl rfl 44 (.tmp 65) (.tmp 64) rfl 44 (A := some ad) (c := c2) j X (-7, -7) _ [.int .i64 (-7), .int .i64 (-7)] (0, 0) rfl rfl rfl size2i (by simp [Value.oneCell']) HSl.out (by have := HXl.out; omega) rfl ⟨[.int .i64 (-7)], [.int .i64 (-7)], rfl, rfl, rfl⟩ HS.out.bel ?_); intro w7 ho hb hg; rw [HXl.out] at ho hg; have HS7 : Hid (Three K2 44 w1 w7 (.slice (some ad) L.length c2) (.slice A3 L.length c3) (.slice A4 L.length c4) (X.set j (-7, -7)) L L) := Lib.hid (HS.out.putL K2_E ho hb hg (.inl rfl)); rw [HSet.out] at HS7; clear ho hb hg)
      go_roundw
      case rel => exact ⟨j + 1, by go_num, by omega, HS7⟩
      case measure => simp [intOf]; omega
    · obtain rfl : j = L.length := by omega
      have HS0 : Hid (Three K2 44 w1 wr (.slice A2 L.length c2) (.slice A3 L.length c3) (.slice A4 L.length c4) (List.replicate L.length (-7, -7) ++ List.replicate 0 (-8, 0)) (L ++ List.replicate 0 (-9, 0)) L) := Lib.hid (by simpa using HS.out)
      obtain ⟨wo, rfl⟩ : ∃ wo : World, wo = wr := ⟨_, rfl⟩
      clear hX
      go_wp2
      go_loopw [6, 8, 13] (fun uu vv x wr => ∃ (j : Nat) (u v : Value), x = .int .i64 j ∧ j ≤ 30 ∧ u = uu ∧ v = vv ∧ Hid (Three K2 44 w1 wr u v (.slice A4 L.length c4) (List.replicate L.length (-7, -7) ++ List.replicate j (-8, 0)) (L ++ List.replicate j (-9, 0)) L)) (fun _ _ x _ => 30 - (intOf x).toNat)
      case atStart => exact ⟨0, _, _, rfl, by omega, rfl, rfl, HS0⟩
      case round =>
        obtain ⟨j, u, v, rfl, hj, rfl, rfl, HT⟩ := hrel
        by_cases hlt : j < 30
        · go_wp2_with (first
            | ((with_reducible refine gate_builtin (b := .append) (xs := #[.tmp 70, .tmp 72]) rfl ?_); at_builtin; go_loud (refine RC_append K2 (w0 := w1) w1.heap.size rfl (.tmp 70) (.tmp 72) 37 44 (.agg #[.int .i64 0, .int .i64 0]) 16 rfl Tryd.underlying37 info2i rfl (by decide) (by omega) u _ (-8, 0) [.int .i64 (-8), .int .i64 0] rfl rfl ⟨[.int .i64 (-8)], [.int .i64 0], rfl, rfl, rfl⟩ HT.out.rl HT.out.bel HT.out.bel.size (by simp; omega) ?_); intro v1 w7 ho hb hg hat; have HT7 := Lib.hid (HT.out.putL K2_E ho hb hg hat); clear ho hb hg hat)
            | ((with_reducible refine gate_builtin (b := .append) (xs := #[.tmp 74, .tmp 76]) rfl ?_); at_builtin; go_loud (refine RC_append K2 (w0 := w1) w1.heap.size rfl (.tmp 74) (.tmp 76) 37 44 (.agg #[.int .i64 0, .int .i64 0]) 16 rfl Tryd.underlying37 info2i rfl (by decide) (by omega) v _ (-9, 0) [.int .i64 (-9), .int .i64 0] rfl rfl ⟨[.int .i64 (-9)], [.int .i64 0], rfl, rfl, rfl⟩ HT7.out.rm HT7.out.bel HT7.out.bel.size (by simp; omega) ?_); intro v2 w8 ho hb hg hat; have HT8 := Lib.hid (HT7.out.putM K2_E ho hb hg hat); clear ho hb hg hat))
          rw [List.append_assoc, ← List.replicate_succ', List.append_assoc, ← List.replicate_succ'] at HT8
          go_roundw
          case rel => exact ⟨j + 1, _, _, by go_num, by omega, rfl, rfl, HT8⟩
          case measure => simp [intOf]; omega
        · obtain rfl : j = 30 := by omega
          obtain ⟨A6, c6, rfl, hc6, hC6⟩ := HT.out.rm.form (n := L.length + 30) (by simp)
          obtain ⟨A7, c7, rfl, hc7, hC7⟩ := HT.out.rl.form (n := L.length + 30) (by simp)
          have hC6' : K2.C wr A6 L.length L := Kd.C_takeN hC6
          obtain ⟨ad, x, y, rfl, hx, hy, HX⟩ := at_K2 hC7 (L.length + 29) (by simp)
          have hxy : (x, y) = ((-8 : Int), (0 : Int)) := by
            rw [← HX.out, List.getD_eq_getElem?_getD, List.getElem?_append_right (by simp)]
            simp
          have HTq := Lib.hid (HTw.out A6 A4 c6 c4 wr hC6' HT.out.rn.C)
          obtain ⟨rfl, rfl⟩ : x = -8 ∧ y = 0 := by simpa using hxy
          have HBl := Lib.hid HT.out.bel
          have HQe : ∀ W : World, (Op.equalIn 10000 44 (.agg #[.int .i64 (-8), .int .i64 0]) (.agg #[.int .i64 (-8), .int .i64 0])).run Tryd.prog W = .ok true W := fun W => eq2 9998 (-8) 0 (-8) 0 W
          clear hxy hC6 hC6' hC7
          have HAw : Hid (∀ W, Below w1.heap.size w1 W → Calls Tryd.prog 11 #[] W fun e w' => e = .returned (.bool true) ∧ Below w.heap.size w w') := Lib.hid (fun W hW =>
            (awake_calls W Ae ((HE.out.below (below_next HB1.out hW)).someL _ (by decide))).mono (fun e w' h => ⟨h.1, below_next (below_next HB1.out hW) h.2⟩))
          go_wp2_with (first
            | (go_at_call 24; (with_reducible refine HTq.out.mono ?_); rintro e w' ⟨rfl, n4, rfl⟩)
            | (go_at_call 25; (refine (HKp.out _ (pw_below_drewN HBl.out _)).mono ?_); rintro e w' ⟨rfl, n5, rfl⟩)
            | (go_at_call 11; refine (HAw.out _ (pw_below_drewN HBl.out _)).mono ?_; rintro e w9 ⟨rfl, hb⟩; have HB9 := Lib.hid hb; clear hb))
          go_ret
          exact ⟨ret_bool (by simp), HB9.out⟩
end Go.Proofs.YtcikcnkhcfhomaaDoor.Hand
