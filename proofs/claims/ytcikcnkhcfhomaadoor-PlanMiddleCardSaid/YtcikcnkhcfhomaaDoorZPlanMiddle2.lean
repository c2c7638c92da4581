/- The texts that the statement's proof stands on, part 2: XPlText XPlAwake XKinds XHd XOpens XPlMid. -/
import Derived.Test.YtcikcnkhcfhomaaDoorZPlanMiddle1
import Derived.Test.YtcikcnkhcfhomaaDoorShelf
import Derived.Deep.Slices
import Derived.ChangeSame
import Derived.SizedLaws
import Derived.Lib.SmallJoins
/- Contracts: plan.Text. -/
namespace Go.Proofs.YtcikcnkhcfhomaaDoor.Hand
open Go.RowKit Go.Proofs.YtcikcnkhcfhomaaDoorW.PrintWords Go.Proofs.YtcikcnkhcfhomaaDoorW.PrintMore Go.Proofs.YtcikcnkhcfhomaaDoor.Math

def decB (i : Nat) : ByteArray := ⟨(Lib.decDigits i).toArray⟩
def pB (a b : ByteArray) : ByteArray := (⟨#[40]⟩ : ByteArray) ++ a ++ ⟨#[32]⟩ ++ b ++ ⟨#[41]⟩
/-- The texts after the joins. -/
def txtF : List (Nat × Nat × Nat) → (Nat → ByteArray) → (Nat → ByteArray)
  | [], T => T
  | x :: r, T => txtF r (fun i => if i = x.2.1 then ⟨#[]⟩ else if i = x.1 then pB (T x.1) (T x.2.1) else T i)
def sumS (T : Nat → ByteArray) : Nat → Nat
  | 0 => 0
  | n + 1 => sumS T n + (T n).size
theorem sumS_ge (T : Nat → ByteArray) : ∀ (n i : Nat), i < n → (T i).size ≤ sumS T n
  | n + 1, i, h => by
    rw [sumS]
    rcases Nat.lt_or_ge i n with h1 | h1
    · have := sumS_ge T n i h1; omega
    · obtain rfl : i = n := by omega
      omega
theorem sumS_ext {T U : Nat → ByteArray} : ∀ (n : Nat), (∀ i, i < n → (T i).size = (U i).size) → sumS T n = sumS U n
  | 0, _ => rfl
  | n + 1, h => by rw [sumS, sumS, sumS_ext n (fun i hi => h i (by omega)), h n (by omega)]
theorem sumS_one {T : Nat → ByteArray} {a : Nat} {v : ByteArray} : ∀ (n : Nat), a < n → sumS (fun i => if i = a then v else T i) n + (T a).size = sumS T n + v.size
  | n + 1, h => by
    rw [sumS, sumS]
    rcases Nat.lt_or_ge a n with h1 | h1
    · have := sumS_one (T := T) (v := v) n h1
      rw [if_neg (by omega)]
      omega
    · obtain rfl : a = n := by omega
      rw [if_pos rfl, sumS_ext (T := fun i => if i = a then v else T i) (U := T) a (fun i hi => by simp [show i ≠ a by omega])]
      omega
theorem pB_size (a b : ByteArray) : (pB a b).size = a.size + b.size + 3 := by
  unfold pB
  rw [ByteArray.size_append, ByteArray.size_append, ByteArray.size_append, ByteArray.size_append]
  show 1 + a.size + 1 + b.size + 1 = _
  omega
theorem sumS_join {T : Nat → ByteArray} {n a b : Nat} (ha : a < n) (hb : b < n) (hne : a ≠ b) : sumS (fun i => if i = b then ⟨#[]⟩ else if i = a then pB (T a) (T b) else T i) n = sumS T n + 3 := by
  have h1 := sumS_one (T := fun i => if i = a then pB (T a) (T b) else T i) (a := b) (v := ⟨#[]⟩) n hb
  have h2 := sumS_one (T := T) (a := a) (v := pB (T a) (T b)) n ha
  rw [pB_size] at h2
  rw [if_neg (fun h => hne h.symm)] at h1
  have e : (⟨#[]⟩ : ByteArray).size = 0 := rfl
  rw [e] at h1
  omega
theorem decDigits_len : ∀ (k n : Nat), n < 10 ^ (k + 1) → (Lib.decDigits n).length ≤ k + 1
  | 0, n, h => by
    rw [Lib.decDigits]
    simp at h
    simp [h]
  | k + 1, n, h => by
    rw [Lib.decDigits]
    split
    · simp
    · have := decDigits_len k (n / 10) (by rw [Nat.pow_succ] at h; omega)
      simp
      omega
theorem joinL_mem {m : Nat} : ∀ (o S : List Nat), Starts m S → OrdOk S.length o → ∀ x ∈ joinL m S o, x.1 < x.2.1 ∧ x.2.1 < m
  | [], _, _, _, x, hx => by cases hx
  | k :: r, S, hS, ho, x, hx => by
    have hh := ho.head
    have hl : (S.eraseIdx (k + 1)).length = S.length - 1 := by rw [List.length_eraseIdx, if_pos hh.1]
    rw [joinL, List.mem_cons] at hx
    rcases hx with rfl | hx
    · show S.getD k 0 < S.getD (k + 1) m ∧ S.getD (k + 1) m < m
      rw [getD_at (d := 0) (show k < S.length by omega), getD_at hh.1]
      exact ⟨getElem_lt_of hS.up hh.1 (by omega), hS.lt _ (List.getElem_mem _)⟩
    · exact joinL_mem r _ (hS.erase k) (by rw [hl]; exact hh.2) x hx
theorem infoStr : (Tryd.prog.info? 9).map (fun i => (i.zero, i.size, i.bytes)) = some (some (.string ⟨#[]⟩), 1, 16) := by kernel_rfl
/-- The memory of Text's second loop. -/
def TSt (w1 w : World) (M : Nat) (L : List (Nat × Nat × Nat)) (j : Nat) : Prop :=
  ∃ T : Nat → ByteArray, Row w w1.heap.size M (fun q => .string (T q)) ∧ txtF (L.drop j) T 0 = txtF L decB 0 ∧ sumS T M ≤ 4 * M + 3 * j ∧ Below w1.heap.size w1 w
set_option maxHeartbeats 2000000 in
set_option maxRecDepth 20000 in
theorem text_calls (m : Int) (A : Option Addr) (c : Nat) (o : List Int) (w : World) (Ae : Nat → Addr) (hE : ErrsL [0, 8] w Ae) (hr : Kd.C (Kd.int .i64) w A o.length o) (hm : -9223372036854775808 ≤ m ∧ m ≤ 9223372036854775807) (hl : o.length ≤ 17592186044415)
    (hI : ∀ i : Nat, i < 4096 → (i : Int) < m → ∀ W, Below w.heap.size w W → Calls Tryd.prog 44 #[.int .i64 i] W fun e w' => e = .returned (.string (decB i)) ∧ Below W.heap.size W w') :
    Calls Tryd.prog 27 #[.int .i64 m, .slice A o.length c] w fun e w' => Below w.heap.size w w' ∧ ((∃ k, ordE m o = k + 1 ∧ e = .returned (.tuple #[.string ⟨#[]⟩, .iface 133 (.pointer (some (Ae k)))])) ∨
      (ordE m o = 0 ∧ 4096 < m ∧ e = .returned (.tuple #[.string ⟨#[]⟩, .iface 133 (.pointer (some (Ae 0)))])) ∨
      (ordE m o = 0 ∧ m ≤ 4096 ∧ e = .returned (.tuple #[.string (txtF (joinL m.toNat (List.range m.toNat) (o.map Int.toNat)) decB 0), .nilIface]))) := by
  have HJ := Lib.hid (joins_calls m A c o w Ae hE hr hm hl)
  have HE := Lib.hid hE
  have HI := Lib.hid hI
  clear hr hE hI
  go_enter Tryd.func27, Tryd.ntmps27
  go_wp2_with (fail)
  go_at_call 10
  refine HJ.out.mono ?_
  rintro e w1 ⟨hb1, hcase⟩
  have HB1 := Lib.hid hb1
  clear hb1
  rcases hcase with ⟨k, hk, rfl⟩ | ⟨h0, v, rfl, hv⟩
  · have HK := Lib.hid hk
    clear hk
    go_wp2
    go_ret2
    exact ⟨HB1.out, .inl ⟨k, HK.out, rfl⟩⟩
  · by_cases hbig : 4096 < m
    · have e0 := (HE.out.below HB1.out).cells 0 (by decide)
      simp only [GE, List.getD_cons_zero] at e0
      have H0 := Lib.hid h0
      clear h0 hv
      go_upto_region 5 with (fail)
      go_quiet (fail)
      go_wp2
      go_ret2
      exact ⟨pw_below_drewN HB1.out _, .inr (.inl ⟨H0.out, hbig, rfl⟩)⟩
    · obtain ⟨hm1, -, -, hok⟩ := ordE_ok h0
      obtain ⟨M, rfl⟩ : ∃ M : Nat, m = (M : Int) := ⟨m.toNat, by omega⟩
      rw [Int.toNat_natCast] at hv hok
      have HMem : Hid (∀ x ∈ joinL M (List.range M) (o.map Int.toNat), x.1 < x.2.1 ∧ x.2.1 < M) := Lib.hid (joinL_mem _ _ (Starts.range M) (by rw [List.length_range]; exact hok))
      have HLn : Hid ((joinL M (List.range M) (o.map Int.toNat)).length < M) := Lib.hid (by rw [joinL_length]; have := hok.1; omega)
      obtain ⟨L, HLd⟩ : ∃ L, Hid (joinL M (List.range M) (o.map Int.toNat) = L) := ⟨_, Lib.hid rfl⟩
      rw [HLd.out] at hv HMem HLn
      obtain ⟨B, d, rfl⟩ := Kd.R_slice hv
      have HV := Lib.hid (Kd.R_reads' hv).2.2
      have hcap := (Kd.R_reads' hv).2.1
      simp only [List.length_map] at HV hcap
      rw [List.length_map]
      have hM : M ≤ 4096 := by omega
      have hM1 : 1 ≤ M := by omega
      have hL4 : L.length < 4096 := by have := HLn.out; omega
      have H0 := Lib.hid h0
      clear h0 hv hok
      have hmk : ∀ W : World, (Instr.makeSlice 68 (.int .i64 (M : Int)) (.int .i64 (M : Int))).run Tryd.prog W = .ok (.slice (some ⟨W.heap.size, 0, none⟩) M M) (W.alloc (.cells (madeCells #[.string ⟨#[]⟩] M) 9)) := fun W =>
        print_make_of (P := Tryd.prog) 68 9 (.string ⟨#[]⟩) 16 Tryd.underlying68 infoStr rfl (by decide) M (by omega) W
      obtain ⟨w2, hw2⟩ : ∃ w2, w1.alloc (.cells (madeCells #[.string ⟨#[]⟩] M) 9) = w2 := ⟨_, rfl⟩
      have hb2 : Below w1.heap.size w1 w2 := by rw [← hw2]; exact below_alloc (Below.refl _ _) _
      have hrow2 : Row w2 w1.heap.size M (fun _ => .string ⟨#[]⟩) := by rw [← hw2]; exact Row.made w1 _ _ _
      have HB2 := Lib.hid hb2
      have HRow2 := Lib.hid hrow2
      clear hb2 hrow2
      go_wp2
      clear hw2 hmk
      go_loopw [27] (fun x wr => ∃ i : Nat, x = .int .i64 i ∧ i ≤ M ∧ Hid (∃ T : Nat → ByteArray, Row wr w1.heap.size M (fun q => .string (T q)) ∧ (∀ q, q < i → T q = decB q) ∧ Below w1.heap.size w1 wr)) (fun x _ => M - (intOf x).toNat)
      case atStart => exact ⟨0, rfl, by omega, Lib.hid ⟨_, HRow2.out, fun q h => by omega, HB2.out⟩⟩
      case round =>
        obtain ⟨i, rfl, hi, HS⟩ := hrel
        obtain ⟨T, k1, k2, k3⟩ := HS.out
        have HB3 := Lib.hid k3
        by_cases hlt : i < M
        · have HR3 := Lib.hid k1
          have HT3 := Lib.hid k2
          have HCl := Lib.hid (HI.out i (by omega) (by omega) wr (HB1.out.trans (k3.mono HB1.out.size)))
          clear k1 k2 k3
          go_wp2_with (fail)
          go_at_call 44
          refine HCl.out.mono ?_
          rintro e w4 ⟨rfl, hb4⟩
          have hr4 := HR3.out.below hb4
          have ci := hr4.cell i hlt
          have fi := hr4.free i
          have HR4 := Lib.hid hr4
          have HB4 := Lib.hid (HB3.out.trans (hb4.mono HB3.out.size))
          clear hr4 hb4
          go_wp2
          go_roundw
          case rel => exact ⟨i + 1, by go_num, by omega, Lib.hid ⟨fun q => if q = i then decB i else T q, (HR4.out.set i hlt _).ext (fun q _ => by show (if q = i then Value.string (decB i) else Value.string (T q)) = Value.string (if q = i then decB i else T q); split <;> rfl), fun q hq => by
            show (if q = i then decB i else T q) = decB q
            by_cases e : q = i
            · rw [if_pos e, e]
            · rw [if_neg e]; exact HT3.out q (by omega), HB4.out.setCell (Nat.le_refl _) _⟩⟩
          case measure => simp [intOf]; omega
        · obtain rfl : i = M := by omega
          have hdec : ∀ q, q < i → (decB q).size ≤ 4 := fun q hq => decDigits_len 3 q (by omega)
          have hsum : ∀ n, n ≤ i → sumS decB n ≤ 4 * n := by
            intro n
            induction n with
            | zero => intro _; simp [sumS]
            | succ n ih =>
              intro h
              rw [sumS]
              have := ih (by omega)
              have := hdec n (by omega)
              omega
          have HS0 : Hid (TSt w1 wr i L 0) := Lib.hid ⟨decB, k1.ext (fun q hq => by rw [k2 q hq]), by simp, by have := hsum i (Nat.le_refl _); omega, k3⟩
          clear k1 k2 k3 hdec hsum
          obtain ⟨wo, rfl⟩ : ∃ wo : World, wo = wr := ⟨_, rfl⟩
          go_wp2
          go_loopw [38] (fun x wr => ∃ j : Nat, x = .int .i64 j ∧ j ≤ L.length ∧ Hid (TSt w1 wr i L j)) (fun x _ => L.length - (intOf x).toNat)
          case atStart => exact ⟨0, rfl, by omega, HS0⟩
          case round =>
            obtain ⟨j, rfl, hj, HS⟩ := hrel
            obtain ⟨T, k1, k2, k3, k4⟩ := HS.out
            by_cases hlt : j < L.length
            · obtain ⟨⟨a, b, c3⟩, hLj⟩ : ∃ p, L[j] = p := ⟨_, rfl⟩
              have hab := HMem.out _ (List.getElem_mem hlt)
              rw [hLj] at hab
              have hab1 : a < b := hab.1
              have hab2 : b < i := hab.2
              obtain ⟨ad, x, y, z, rfl, hx, hy, hz, HX⟩ := at_K3 (by rw [List.length_map]; exact Kd.C_below HV.out k4) j (by rw [List.length_map]; exact hlt)
              obtain ⟨rfl, rfl, rfl⟩ : (x = (a : Int)) ∧ (y = (b : Int)) ∧ z = (c3 : Int) := by
                have h := HX.out
                rw [List.getD_eq_getElem?_getD, List.getElem?_map, List.getElem?_eq_getElem hlt, hLj] at h
                simp [tI] at h
                exact ⟨h.1.symm, h.2.1.symm, h.2.2.symm⟩
              have ca := k1.cell a (by omega)
              have cb := k1.cell b (by omega)
              have fa := k1.free a
              have fb := k1.free b
              have za := sumS_ge T i a (by omega)
              have zb := sumS_ge T i b (by omega)
              obtain ⟨ta, hta⟩ : ∃ t, T a = t := ⟨_, rfl⟩
              obtain ⟨tb, htb⟩ : ∃ t, T b = t := ⟨_, rfl⟩
              rw [hta] at ca za
              rw [htb] at cb zb
              have za2 : ta.size ≤ 40000 := by omega
              have zb2 : tb.size ≤ 40000 := by omega
              clear za zb
              have hg1 := k1.lt
              go_upto_region 15 with (fail)
              obtain ⟨w5, hw5⟩ : ∃ w5, wr.alloc (.cells #[.int .i64 (a : Int), .int .i64 (b : Int), .int .i64 (c3 : Int)] 29) = w5 := ⟨_, rfl⟩
              rw [hw5]
              have hb5 : Below wr.heap.size wr w5 := by rw [← hw5]; exact below_alloc (Below.refl _ _) _
              have q0 : w5.cell? ⟨wr.heap.size, 0, none⟩ = some (.int .i64 (a : Int)) := by rw [← hw5]; simp [go_sem]
              have q1 : w5.cell? ⟨wr.heap.size, 1, none⟩ = some (.int .i64 (b : Int)) := by rw [← hw5]; simp [go_sem]
              have da : w5.cell? ⟨w1.heap.size, a, none⟩ = some (.string ta) := (hb5.cell (p := ⟨w1.heap.size, a, none⟩) hg1).trans ca
              have db : w5.cell? ⟨w1.heap.size, b, none⟩ = some (.string tb) := (hb5.cell (p := ⟨w1.heap.size, b, none⟩) hg1).trans cb
              have ga : w5.frozen? ⟨w1.heap.size, a, none⟩ = false := (hb5.frozen (p := ⟨w1.heap.size, a, none⟩) hg1).trans fa
              have gb : w5.frozen? ⟨w1.heap.size, b, none⟩ = false := (hb5.frozen (p := ⟨w1.heap.size, b, none⟩) hg1).trans fb
              have HB5 := Lib.hid hb5
              have HK1 := Lib.hid k1
              have HK2 := Lib.hid k2
              have HK3 := Lib.hid k3
              have HK4 := Lib.hid k4
              have hab3 : a < i := by omega
              have hne : a ≠ b := by omega
              have HTa := Lib.hid hta
              have HTb := Lib.hid htb
              have HLj := Lib.hid hLj
              clear hw5 hb5 ca cb fa fb k1 k2 k3 k4 hta htb hx hy hz hLj
              go_region
              obtain ⟨w6, hw6⟩ : ∃ w6, (w5.setCell ⟨w1.heap.size, a, none⟩ (.string (pB ta tb))).drew = w6 := ⟨_, rfl⟩
              have hr6 : Row w6 w1.heap.size i (fun q => .string (if q = a then pB ta tb else T q)) := by
                rw [← hw6]
                exact (((HK1.out.below HB5.out).set a (by omega) _).below (Below.refl _ _).drew).ext (fun q _ => by split <;> rfl)
              have hb6 : Below w1.heap.size w1 w6 := by
                rw [← hw6]
                exact ((HK4.out.trans (HB5.out.mono HK4.out.size)).setCell (by exact Nat.le_refl _) _).drew
              have r1 : w6.cell? ⟨wr.heap.size, 1, none⟩ = some (.int .i64 (b : Int)) := by
                rw [← hw6]
                refine (World.cell?_setCell_other _ _ _ _ (by intro e; injection e with e; omega)).trans q1
              have cb := hr6.cell b (by omega)
              have fb := hr6.free b
              rw [if_neg (fun h => hne h.symm)] at cb
              have HR6 := Lib.hid hr6
              have HB6 := Lib.hid hb6
              rw [show (w5.setCell ⟨w1.heap.size, a, none⟩ (.string ((⟨#[40]⟩ : ByteArray) ++ ta ++ ⟨#[32]⟩ ++ tb ++ ⟨#[41]⟩))).drew = w6 from hw6]
              clear q0 q1 da db ga gb hw6 hr6 hb6
              go_wp2
              go_roundw
              case rel => exact ⟨j + 1, by go_num, by omega, Lib.hid ⟨fun q => if q = b then ⟨#[]⟩ else if q = a then pB (T a) (T b) else T q, by
                  refine (HR6.out.set b hab2 _).ext (fun q _ => ?_)
                  show (if q = b then Value.string ⟨#[]⟩ else Value.string (if q = a then pB ta tb else T q)) = Value.string (if q = b then ⟨#[]⟩ else if q = a then pB (T a) (T b) else T q)
                  rw [HTa.out, HTb.out]
                  split <;> rfl, by
                  rw [← HK2.out, List.drop_eq_getElem_cons hlt, HLj.out, txtF], by
                  rw [sumS_join (T := T) (n := i) (a := a) (b := b) (by omega) hab2 hne]
                  have := HK3.out; omega, HB6.out.setCell (by exact Nat.le_refl _) _⟩⟩
              case measure => simp [intOf]; omega
            · obtain rfl : j = L.length := by omega
              rw [List.drop_of_length_le (Nat.le_refl _), txtF] at k2
              have c0 := k1.cell 0 (by omega)
              have HK2 := Lib.hid k2
              have HK4 := Lib.hid k4
              clear k2 k4
              go_wp2
              go_ret2
              refine ⟨HB1.out.trans (HK4.out.mono HB1.out.size), .inr (.inr ⟨H0.out, by omega, ?_⟩)⟩
              rw [Int.toNat_natCast, HLd.out, ← HK2.out]
              rfl
end Go.Proofs.YtcikcnkhcfhomaaDoor.Hand
/- Chapter 22's awake: answers that the document names. -/
namespace Go.Proofs.YtcikcnkhcfhomaaDoor.Hand
open Go.RowKit Go.Proofs.YtcikcnkhcfhomaaDoorW.PrintWords Go.Proofs.YtcikcnkhcfhomaaDoorW.PrintMore Go.Proofs.YtcikcnkhcfhomaaDoor.Math

theorem add_off (b j : Nat) : (Addr.add ⟨b, 0, none⟩ j) = ⟨b, j, none⟩ := by
  unfold Addr.add
  split
  · rename_i h0; rw [h0]
  · simp
theorem C2_of {w : World} {b : Nat} {l : List (Int × Int)} (hm : l.length ≤ 1000) (h : ∀ j x, l[j]? = some x → w.cell? ⟨b, j * 2, none⟩ = some (.int .i64 x.1) ∧ w.cell? ⟨b, j * 2 + 1, none⟩ = some (.int .i64 x.2)) : K2.C w (some ⟨b, 0, none⟩) l.length l := by
  refine ⟨rfl, by have : maxLen = 9223372036854775807 := (by decide); omega, fun _ => ⟨_, rfl, fun j r hj => ?_⟩⟩
  obtain ⟨h1, h2⟩ := h j r hj
  refine ⟨[.int .i64 r.1, .int .i64 r.2], rfl, ⟨[.int .i64 r.1], [.int .i64 r.2], rfl, rfl, rfl⟩, fun i u hu => ?_⟩
  rw [show K2.sz = 2 from rfl, add_off]
  match i, hu with
  | 0, hu => simp at hu; subst hu; exact h1
  | 1, hu => simp at hu; subst hu; exact h2
  | i + 2, hu => simp at hu
theorem C3_of {w : World} {b : Nat} {l : List (Int × Int × Int)} (hm : l.length ≤ 1000) (h : ∀ j x, l[j]? = some x → w.cell? ⟨b, j * 3, none⟩ = some (.int .i64 x.1) ∧ w.cell? ⟨b, j * 3 + 1, none⟩ = some (.int .i64 x.2.1) ∧ w.cell? ⟨b, j * 3 + 2, none⟩ = some (.int .i64 x.2.2)) : K3.C w (some ⟨b, 0, none⟩) l.length l := by
  refine ⟨rfl, by have : maxLen = 9223372036854775807 := (by decide); omega, fun _ => ⟨_, rfl, fun j r hj => ?_⟩⟩
  obtain ⟨h1, h2, h3⟩ := h j r hj
  refine ⟨[.int .i64 r.1, .int .i64 r.2.1, .int .i64 r.2.2], rfl, ⟨[.int .i64 r.1], [.int .i64 r.2.1, .int .i64 r.2.2], rfl, rfl, [.int .i64 r.2.1], [.int .i64 r.2.2], rfl, rfl, rfl⟩, fun i u hu => ?_⟩
  rw [show K3.sz = 3 from rfl, add_off]
  match i, hu with
  | 0, hu => simp at hu; subst hu; exact h1
  | 1, hu => simp at hu; subst hu; exact h2
  | 2, hu => simp at hu; subst hu; exact h3
  | i + 3, hu => simp at hu
theorem litI (xs : List Int) (W : World) (hx : xs.length ≤ 1000) : Kd.C (Kd.int .i64) (W.alloc (.cells (xs.map (Value.int .i64)).toArray 3)) (some ⟨W.heap.size, 0, none⟩) xs.length xs := by
  have h := (Kd.R_reads' (R_lit (enc := Value.int .i64) (h1 := fun _ => rfl) 3 W.heap.size W xs (Nat.le_refl _) (by unfold maxLen; omega))).2.2
  exact h
theorem dec1 (n : Nat) (h : n < 10) : decB n = ⟨#[UInt8.ofNat (48 + n)]⟩ := by
  unfold decB
  rw [Lib.decDigits, dif_pos h]
theorem text4 : txtF [(1, 2, 3), (0, 1, 3), (0, 3, 4)] decB 0 = ⟨#[40, 40, 48, 32, 40, 49, 32, 50, 41, 41, 32, 51, 41]⟩ := by
  simp only [txtF]
  simp [pB, dec1]
  rfl
theorem two_lit (W W' : World) (b : Nat) (hb : W.heap.size = b) (hW : W' = W.alloc (.cells #[.int .i64 0, .int .i64 2, .int .i64 2, .int .i64 2, .int .i64 2, .int .i64 4, .int .i64 4, .int .i64 5] 44)) : K2.C W' (some ⟨b, 0, none⟩) 4 [(0, 2), (2, 2), (2, 4), (4, 5)] := by
  subst hb hW
  refine C2_of (by simp) (fun j x hj => ?_)
  match j, hj with
  | 0, hj => simp at hj; subst hj; simp [go_sem]
  | 1, hj => simp at hj; subst hj; simp [go_sem]
  | 2, hj => simp at hj; subst hj; simp [go_sem]
  | 3, hj => simp at hj; subst hj; simp [go_sem]
  | j + 4, hj => simp at hj
theorem three_lit (W W' : World) (b : Nat) (hb : W.heap.size = b) (hW : W' = W.alloc (.cells #[.int .i64 1, .int .i64 2, .int .i64 3, .int .i64 0, .int .i64 1, .int .i64 3, .int .i64 0, .int .i64 3, .int .i64 4] 29)) : K3.C W' (some ⟨b, 0, none⟩) 3 [(1, 2, 3), (0, 1, 3), (0, 3, 4)] := by
  subst hb hW
  refine C3_of (by simp) (fun j x hj => ?_)
  match j, hj with
  | 0, hj => simp at hj; subst hj; simp [go_sem]
  | 1, hj => simp at hj; subst hj; simp [go_sem]
  | 2, hj => simp at hj; subst hj; simp [go_sem]
  | j + 3, hj => simp at hj
theorem joins4 : ((joinL (4 : Int).toNat (List.range (4 : Int).toNat) (([1, 0, 0] : List Int).map Int.toNat))) = [(1, 2, 3), (0, 1, 3), (0, 3, 4)] := by decide
set_option maxHeartbeats 1000000 in
theorem awake_calls (w : World) (Ae : Nat → Addr) (hE : ErrsL [0, 7, 8] w Ae) : Calls Tryd.prog 11 #[] w fun e w' => e = .returned (.bool true) ∧ Below w.heap.size w w' := by
  have HC : Hid (∀ (W : World) (b : Nat), Below w.heap.size w W → W.heap.size = b → Calls Tryd.prog 21 #[.int .i64 5, .slice (some ⟨b, 0, none⟩) 3 3] (W.alloc (.cells #[.int .i64 2, .int .i64 2, .int .i64 4] 3)) fun e w' => ∃ B d, e = .returned (.tuple #[.slice B 4 d, .nilIface]) ∧ K2.C w' B 4 [(0, 2), (2, 2), (2, 4), (4, 5)] ∧ Below w.heap.size w w') := Lib.hid (fun W b hW hb => by
    subst hb
    have hb1 : Below w.heap.size w (W.alloc (.cells #[.int .i64 2, .int .i64 2, .int .i64 4] 3)) := below_alloc hW _
    refine (cut_calls 5 (some ⟨W.heap.size, 0, none⟩) 3 [2, 2, 4] _ Ae ((hE.sub (by decide)).below hb1) (litI [2, 2, 4] W (by decide)) (by decide)).mono ?_
    rintro e w' ⟨hb, ⟨k, hk, -⟩ | ⟨-, B, d, rfl, hR⟩⟩
    · rw [show cutE 5 [2, 2, 4] = 0 by decide] at hk; cases hk
    · exact ⟨B, d, rfl, hR, below_next hb1 hb⟩)
  have HJ : Hid (∀ (W : World) (b : Nat), Below w.heap.size w W → W.heap.size = b → Calls Tryd.prog 10 #[.int .i64 4, .slice (some ⟨b, 0, none⟩) 3 3] (W.alloc (.cells #[.int .i64 1, .int .i64 0, .int .i64 0] 3)) fun e w' => ∃ B d, e = .returned (.tuple #[.slice B 3 d, .nilIface]) ∧ K3.C w' B 3 [(1, 2, 3), (0, 1, 3), (0, 3, 4)] ∧ Below w.heap.size w w' ∧ Below W.heap.size W w') := Lib.hid (fun W b hW hb => by
    subst hb
    have hb0 : Below W.heap.size W (W.alloc (.cells #[.int .i64 1, .int .i64 0, .int .i64 0] 3)) := below_alloc (Below.refl _ _) _
    have hb1 := below_next hW hb0
    refine (joins_calls 4 (some ⟨W.heap.size, 0, none⟩) 3 [1, 0, 0] _ Ae ((hE.sub (by decide)).below hb1) (litI [1, 0, 0] W (by decide)) (by decide) (by decide)).mono ?_
    rintro e w' ⟨hb, ⟨k, hk, -⟩ | ⟨-, v, rfl, hR⟩⟩
    · rw [show ordE 4 [1, 0, 0] = 0 by decide] at hk; cases hk
    · rw [joins4] at hR
      obtain ⟨B, d, rfl⟩ := Kd.R_slice hR
      exact ⟨B, d, rfl, (Kd.R_reads' hR).2.2, below_next hb1 hb, below_next hb0 hb⟩)
  have HT : Hid (∀ (W : World) (b : Nat), Below w.heap.size w W → W.heap.size = b → Calls Tryd.prog 27 #[.int .i64 4, .slice (some ⟨b, 0, none⟩) 3 3] (W.alloc (.cells #[.int .i64 1, .int .i64 0, .int .i64 0] 3)) fun e w' => e = .returned (.tuple #[.string ⟨#[40, 40, 48, 32, 40, 49, 32, 50, 41, 41, 32, 51, 41]⟩, .nilIface]) ∧ Below w.heap.size w w' ∧ Below W.heap.size W w') := Lib.hid (fun W b hW hb => by
    subst hb
    have hb0 : Below W.heap.size W (W.alloc (.cells #[.int .i64 1, .int .i64 0, .int .i64 0] 3)) := below_alloc (Below.refl _ _) _
    have hb1 := below_next hW hb0
    refine (text_calls 4 (some ⟨W.heap.size, 0, none⟩) 3 [1, 0, 0] _ Ae ((hE.sub (by decide)).below hb1) (litI [1, 0, 0] W (by decide)) (by decide) (by decide) (fun i _ hi W2 _ => (Tryd.strconv_Itoa_small i (by omega) W2).mono (fun e w' h => ⟨h.1, by rw [h.2]; exact Below.refl _ _⟩))).mono ?_
    rintro e w' ⟨hb, ⟨k, hk, -⟩ | ⟨-, h4, -⟩ | ⟨-, -, rfl⟩⟩
    · rw [show ordE 4 [1, 0, 0] = 0 by decide] at hk; cases hk
    · omega
    · rw [joins4, text4]
      exact ⟨rfl, below_next hb1 hb, below_next hb0 hb⟩)
  go_enter Tryd.func11, Tryd.ntmps11
  go_wp2_with (fail)
  go_at_call 21
  refine (HC.out w _ (Below.refl _ _) rfl).mono ?_
  rintro e w2 ⟨B2, d2, rfl, hC2, hb2⟩
  have HC2 := Lib.hid hC2
  have HB2 := Lib.hid hb2
  clear hC2 hb2
  go_wp2_with (fail)
  go_at_call 10
  refine (HJ.out w2 _ HB2.out rfl).mono ?_
  rintro e w3 ⟨B3, d3, rfl, hC3, hb3, hb23⟩
  have HC3 := Lib.hid hC3
  have HB3 := Lib.hid hb3
  have HB23 := Lib.hid hb23
  clear hC3 hb3 hb23
  go_wp2_with (fail)
  go_at_call 27
  refine (HT.out w3 _ HB3.out rfl).mono ?_
  rintro e w4 ⟨rfl, hb4, hb34⟩
  have HB4 := Lib.hid hb4
  have HB34 := Lib.hid hb34
  clear hb4 hb34
  go_wp2_with (fail)
  have hc2 := two_lit w4 _ _ rfl rfl
  have hc2' := Kd.C_alloc (Kd.C_below (Kd.C_below HC2.out HB23.out) HB34.out) (.cells #[.int .i64 0, .int .i64 2, .int .i64 2, .int .i64 2, .int .i64 2, .int .i64 4, .int .i64 4, .int .i64 5] 44)
  go_at_call 24
  refine (twos_calls B2 _ d2 4 [(0, 2), (2, 2), (2, 4), (4, 5)] [(0, 2), (2, 2), (2, 4), (4, 5)] _ hc2' hc2).mono ?_
  rintro e w' ⟨rfl, n1, rfl⟩
  rw [decide_eq_true rfl]
  obtain ⟨w5, hw5⟩ : ∃ w5, (w4.alloc (.cells #[.int .i64 0, .int .i64 2, .int .i64 2, .int .i64 2, .int .i64 2, .int .i64 4, .int .i64 4, .int .i64 5] 44)).drewN n1 = w5 := ⟨_, rfl⟩
  have hb45 : Below w4.heap.size w4 w5 := by rw [← hw5]; exact pw_below_drewN (below_alloc (Below.refl _ _) _) _
  rw [hw5]
  have HB45 := Lib.hid hb45
  clear hc2 hc2' hw5 hb45
  go_wp2_with (fail)
  have hc3 := three_lit w5 _ _ rfl rfl
  have hc3' := Kd.C_alloc (Kd.C_below (Kd.C_below HC3.out HB34.out) HB45.out) (.cells #[.int .i64 1, .int .i64 2, .int .i64 3, .int .i64 0, .int .i64 1, .int .i64 3, .int .i64 0, .int .i64 3, .int .i64 4] 29)
  go_at_call 29
  refine (threes_calls B3 _ d3 3 [(1, 2, 3), (0, 1, 3), (0, 3, 4)] [(1, 2, 3), (0, 1, 3), (0, 3, 4)] _ hc3' hc3).mono ?_
  rintro e w' ⟨rfl, n2, rfl⟩
  rw [decide_eq_true rfl]
  clear hc3 hc3'
  go_wp2
  go_ret
  exact ⟨ret_bool (by simp), pw_below_drewN (below_alloc (below_next HB4.out HB45.out) _) _⟩
end Go.Proofs.YtcikcnkhcfhomaaDoor.Hand
/- Kinds of my own: elements that may be the mark, rows lent with a mark behind them, rules, grammars. -/
namespace Go.Proofs.YtcikcnkhcfhomaaDoor.Hand
open Go.RowKit Go.Proofs.YtcikcnkhcfhomaaDoorW.PrintWords Go.Proofs.YtcikcnkhcfhomaaDoorW.PrintMore Go.Proofs.YtcikcnkhcfhomaaDoor.Math

/-- Elements of a kind, or the mark: these cells. -/
def KOpt {α : Type} (a : Kd α) (c : List Value) (hc : c.length = a.sz) (h1 : ∀ u ∈ c, u.oneCell' = true) : Kd (Option α) where
  sz := a.sz
  E := a.E
  K := fun w x cs => match x with | none => cs = c | some y => a.K w y cs
  M := fun w base ok x cs => match x with | none => cs = c | some y => a.M w base ok y cs
  K_len := by
    intro w x cs h
    cases x with
    | none => exact (show cs = c from h) ▸ hc
    | some y => exact a.K_len h
  K_one := by
    intro w x cs h u hu
    cases x with
    | none => exact h1 u ((show cs = c from h) ▸ hu)
    | some y => exact a.K_one h u hu
  K_below := by
    intro w w1 x cs hb h
    cases x with
    | none => exact h
    | some y => exact a.K_below hb h
  K_of_M := by
    intro w base ok x cs h
    cases x with
    | none => exact h
    | some y => exact a.K_of_M h
  M_mono := by
    intro w base ok ok' x cs hok h
    cases x with
    | none => exact h
    | some y => exact a.M_mono hok h
  M_bound := by
    intro w base ok x cs h
    cases x with
    | none => exact h
    | some y => exact a.M_bound h
  M_move := by
    intro w w1 base ok x cs hm h
    cases x with
    | none => exact h
    | some y => exact a.M_move hm h
  M_lower := by
    intro w base base' ok x cs hb h
    cases x with
    | none => exact h
    | some y => exact a.M_lower hb h
/-- A slice over a row that is one longer: the last element is the mark. -/
def KLent {α : Type} (e : Nat) (a : Kd (Option α)) : Kd (List α) where
  sz := 1
  E := e :: a.E
  K := fun w xs cs => ∃ A c, cs = [.slice A xs.length c] ∧ xs.length + 1 ≤ c ∧ a.C w A (xs.length + 1) (xs.map some ++ [none])
  M := fun w base ok xs cs => ∃ A c, cs = [.slice A xs.length c] ∧ xs.length + 1 ≤ c ∧ a.R e w base ok (.slice A (xs.length + 1) c) (xs.map some ++ [none])
  K_len := by rintro w x cs ⟨A, c, rfl, _⟩; rfl
  K_one := by
    rintro w x cs ⟨A, c, rfl, _⟩ u hu
    rw [List.mem_singleton.1 hu]; rfl
  K_below := by rintro w w1 x cs hb ⟨A, c, rfl, hl, hr⟩; exact ⟨A, c, rfl, hl, Kd.C_below hr hb⟩
  K_of_M := by
    rintro w base ok x cs ⟨A, c, rfl, hl, h⟩
    have := (Kd.R_reads' h).2.2
    exact ⟨A, c, rfl, hl, by simpa using this⟩
  M_mono := by rintro w base ok ok' x cs hok ⟨A, c, rfl, hl, h⟩; exact ⟨A, c, rfl, hl, Kd.R_mono h hok⟩
  M_bound := by rintro w base ok x cs ⟨A, c, rfl, hl, h⟩; exact ⟨A, c, rfl, hl, Kd.R_bound h⟩
  M_move := by rintro w w1 base ok x cs hm ⟨A, c, rfl, hl, h⟩; exact ⟨A, c, rfl, hl, Kd.R_move h hm⟩
  M_lower := by rintro w base base' ok x cs hb ⟨A, c, rfl, hl, h⟩; exact ⟨A, c, rfl, hl, Kd.R_lower h hb⟩
theorem C_imp {α β : Type} {a : Kd α} {b : Kd β} (hs : b.sz = a.sz) {w : World} {A : Option Addr} {n : Nat} {l : List α} {m : List β} (h : a.C w A n l) (hl : m.length = l.length) (hi : ∀ (j : Nat) (x : α) (y : β) (cs : List Value), l[j]? = some x → m[j]? = some y → a.K w x cs → b.K w y cs) : b.C w A n m := by
  obtain ⟨h1, h2, h3⟩ := h
  refine ⟨hl.trans h1, h2, fun hn => ?_⟩
  obtain ⟨ad, ha, hc⟩ := h3 hn
  refine ⟨ad, ha, fun j p hj => ?_⟩
  have hj2 : j < l.length := by have := (List.getElem?_eq_some_iff.1 hj).1; omega
  obtain ⟨c, e1, e2, e3⟩ := hc j l[j] (List.getElem?_eq_getElem hj2)
  exact ⟨c, by rw [hs]; exact e1, hi j _ _ c (List.getElem?_eq_getElem hj2) hj e2, by rw [hs]; exact e3⟩
theorem C_some {α : Type} {a : Kd α} {b : Kd (Option α)} (hs : b.sz = a.sz) {w : World} {A : Option Addr} {n : Nat} {l : List α} (h : a.C w A n l) (hi : ∀ (x : α) (cs : List Value), a.K w x cs → b.K w (some x) cs) : b.C w A n (l.map some) :=
  C_imp (a := a) (b := b) hs h (by simp) (fun j x y cs hx hy hk => by
    rw [List.getElem?_map, hx] at hy
    cases hy
    exact hi _ _ hk)
/-- What was lent reads as a list. -/
theorem lent_C {α : Type} {a : Kd α} {c hc h1} {w : World} {A : Option Addr} {l : List α} (h : (KOpt a c hc h1).C w A (l.length + 1) (l.map some ++ [none])) : a.C w A l.length l := by
  have h2 : (KOpt a c hc h1).C w A (l.map some).length (l.map some) := Kd.C_takeN h
  rw [List.length_map] at h2
  refine C_imp (a := KOpt a c hc h1) (b := a) rfl h2 (by simp) (fun j x y cs hx hy hk => ?_)
  rw [List.getElem?_map, hy] at hx
  cases hx
  exact hk
/-- The mark's cells. -/
theorem lent_mark {α : Type} {a : Kd α} {c hc h1} {w : World} {A : Option Addr} {l : List α} (h : (KOpt a c hc h1).C w A (l.length + 1) (l.map some ++ [none])) : ∃ ad, A = some ad ∧ ∀ i u, c[i]? = some u → w.cell? (ad.add (l.length * a.sz + i)) = some u := by
  obtain ⟨_, _, h3⟩ := h
  obtain ⟨ad, ha, hcc⟩ := h3 (by omega)
  refine ⟨ad, ha, ?_⟩
  obtain ⟨cs, e1, e2, e3⟩ := hcc l.length none (by simp)
  have : cs = c := e2
  subst this
  exact e3
/-- A rule: its left side, and its right side as a slice. -/
def KRule : Kd (Int × List Int) := Kd.pair (Kd.int .i64) (Kd.slice 3 (Kd.int .i64))
def KMInt : Kd (Option Int) := KOpt (Kd.int .i64) [.int .i64 (-7171)] rfl (by simp [Value.oneCell'])
def KLInts : Kd (List Int) := KLent 3 KMInt
def KMString : Kd (Option ByteArray) := KOpt Kd.string [.string ⟨#[109, 97, 114, 107]⟩] rfl (by simp [Value.oneCell'])
def KLStrings : Kd (List ByteArray) := KLent 9 KMString
def KLRule : Kd (Int × List Int) := Kd.pair (Kd.int .i64) KLInts
def KMRule : Kd (Option (Int × List Int)) := KOpt KLRule [.int .i64 (-7171), .slice none 0 0] rfl (by simp [Value.oneCell'])
theorem KLInts_plain {w : World} {l : List Int} {cs : List Value} (h : KLInts.K w l cs) : (Kd.slice 3 (Kd.int .i64)).K w l cs := by
  obtain ⟨A, c, rfl, hl, hr⟩ := h
  exact ⟨A, c, rfl, by omega, lent_C hr⟩
theorem KLRule_plain {w : World} {r : Int × List Int} {cs : List Value} (h : KLRule.K w r cs) : KRule.K w r cs := by
  obtain ⟨c0, c1, rfl, h0, h1⟩ := h
  exact ⟨c0, c1, rfl, h0, KLInts_plain h1⟩
theorem lentRules_C {w : World} {A : Option Addr} {l : List (Int × List Int)} (h : KMRule.C w A (l.length + 1) (l.map some ++ [none])) : KRule.C w A l.length l :=
  C_imp (a := KLRule) (b := KRule) rfl (lent_C (a := KLRule) h) rfl (fun j x y cs hx hy hk => by rw [hx] at hy; cases hy; exact KLRule_plain hk)
/-- A grammar, plainly. -/
structure Gr where
  terms : List ByteArray
  nonterms : List ByteArray
  ax : Int
  rules : List (Int × List Int)
/-- A grammar's value, and what it leads to. -/
def GramAt (w : World) (v : Value) (g : Gr) : Prop :=
  ∃ AT cT AN cN AR cR, v = .agg #[.slice AT g.terms.length cT, .slice AN g.nonterms.length cN, .int .i64 g.ax, .slice AR g.rules.length cR] ∧ g.terms.length ≤ cT ∧ g.nonterms.length ≤ cN ∧ g.rules.length ≤ cR ∧
    Kd.C Kd.string w AT g.terms.length g.terms ∧ Kd.C Kd.string w AN g.nonterms.length g.nonterms ∧ KRule.C w AR g.rules.length g.rules
/-- A grammar that was lent: marks behind all its lists. -/
def GramL (w : World) (v : Value) (g : Gr) : Prop :=
  ∃ AT cT AN cN AR cR, v = .agg #[.slice AT g.terms.length cT, .slice AN g.nonterms.length cN, .int .i64 g.ax, .slice AR g.rules.length cR] ∧ g.terms.length + 1 ≤ cT ∧ g.nonterms.length + 1 ≤ cN ∧ g.rules.length + 1 ≤ cR ∧
    KMString.C w AT (g.terms.length + 1) (g.terms.map some ++ [none]) ∧ KMString.C w AN (g.nonterms.length + 1) (g.nonterms.map some ++ [none]) ∧ KMRule.C w AR (g.rules.length + 1) (g.rules.map some ++ [none])
theorem GramAt.below {w w' : World} {v : Value} {g : Gr} (h : GramAt w v g) (hb : Below w.heap.size w w') : GramAt w' v g := by
  obtain ⟨AT, cT, AN, cN, AR, cR, rfl, h1, h2, h3, h4, h5, h6⟩ := h
  exact ⟨AT, cT, AN, cN, AR, cR, rfl, h1, h2, h3, Kd.C_below h4 hb, Kd.C_below h5 hb, Kd.C_below h6 hb⟩
theorem GramL.below {w w' : World} {v : Value} {g : Gr} (h : GramL w v g) (hb : Below w.heap.size w w') : GramL w' v g := by
  obtain ⟨AT, cT, AN, cN, AR, cR, rfl, h1, h2, h3, h4, h5, h6⟩ := h
  exact ⟨AT, cT, AN, cN, AR, cR, rfl, h1, h2, h3, Kd.C_below h4 hb, Kd.C_below h5 hb, Kd.C_below h6 hb⟩
theorem GramL.plain {w : World} {v : Value} {g : Gr} (h : GramL w v g) : GramAt w v g := by
  obtain ⟨AT, cT, AN, cN, AR, cR, rfl, h1, h2, h3, h4, h5, h6⟩ := h
  exact ⟨AT, cT, AN, cN, AR, cR, rfl, by omega, by omega, by omega, lent_C h4, lent_C h5, lentRules_C h6⟩
theorem GramAt.drewN {w : World} {v : Value} {g : Gr} (h : GramAt w v g) (n : Nat) : GramAt (w.drewN n) v g := h.below (pw_below_drewN (Below.refl _ _) _)
theorem GramL.drewN {w : World} {v : Value} {g : Gr} (h : GramL w v g) (n : Nat) : GramL (w.drewN n) v g := h.below (pw_below_drewN (Below.refl _ _) _)
theorem add_field (a : Addr) (n f : Nat) : a.add (n + (f + 1)) = ⟨(a.add n).block, (a.add n).off + (f + 1), none⟩ := by
  unfold Addr.add
  by_cases h : n = 0
  · subst h; simp
  · simp [h]; omega
/-- What is read of rule i. -/
theorem at_rule {w : World} {A : Option Addr} {l : List (Int × List Int)} (h : KRule.C w A l.length l) (i : Nat) (hi : i < l.length) :
    ∃ (ad : Addr) (x : Int) (B : Option Addr) (c : Nat) (r : List Int), A = some ad ∧ w.cell? (ad.add (i * 2)) = some (.int .i64 x) ∧ w.cell? ⟨(ad.add (i * 2)).block, (ad.add (i * 2)).off + 1, none⟩ = some (.slice B r.length c) ∧ r.length ≤ c ∧ Kd.C (Kd.int .i64) w B r.length r ∧ Hid (l.getD i (0, []) = (x, r)) := by
  obtain ⟨ad, cs, h1, h2, h3, h4⟩ := h.get_ (0, []) (i : Int) (by omega) (by omega)
  rw [Int.toNat_natCast] at h3 h4
  obtain ⟨c0, c1, rfl, k0, B, c, rfl, hl, hr⟩ := h3
  have e0 : c0 = [.int .i64 (l.getD i (0, [])).1] := k0
  subst e0
  have hz : KRule.sz = 2 := rfl
  rw [hz] at h4
  refine ⟨ad, (l.getD i (0, [])).1, B, c, (l.getD i (0, [])).2, h1, ?_, ?_, hl, hr, Lib.hid rfl⟩
  · have := h4 0 _ rfl; simpa using this
  · rw [← add_field]; exact h4 1 _ rfl
theorem at_lrule {w : World} {A : Option Addr} {l : List (Int × List Int)} (h : KMRule.C w A (l.length + 1) (l.map some ++ [none])) (i : Nat) (hi : i < l.length) :
    ∃ (ad : Addr) (x : Int) (B : Option Addr) (c : Nat) (r : List Int), A = some ad ∧ w.cell? (ad.add (i * 2)) = some (.int .i64 x) ∧ w.cell? ⟨(ad.add (i * 2)).block, (ad.add (i * 2)).off + 1, none⟩ = some (.slice B r.length c) ∧ r.length + 1 ≤ c ∧ KMInt.C w B (r.length + 1) (r.map some ++ [none]) ∧ Hid (l.getD i (0, []) = (x, r)) := by
  have h' : KLRule.C w A l.length l := lent_C (a := KLRule) h
  obtain ⟨ad, cs, h1, h2, h3, h4⟩ := h'.get_ (0, []) (i : Int) (by omega) (by omega)
  rw [Int.toNat_natCast] at h3 h4
  obtain ⟨c0, c1, rfl, k0, B, c, rfl, hl, hr⟩ := h3
  have e0 : c0 = [.int .i64 (l.getD i (0, [])).1] := k0
  subst e0
  have hz : KLRule.sz = 2 := rfl
  rw [hz] at h4
  refine ⟨ad, (l.getD i (0, [])).1, B, c, (l.getD i (0, [])).2, h1, ?_, ?_, hl, hr, Lib.hid rfl⟩
  · have := h4 0 _ rfl; simpa using this
  · rw [← add_field]; exact h4 1 _ rfl
end Go.Proofs.YtcikcnkhcfhomaaDoor.Hand
/- A slice's head; lists by their elements. -/
namespace Go.Proofs.YtcikcnkhcfhomaaDoor.Hand
open Go.RowKit Go.Proofs.YtcikcnkhcfhomaaDoorW.PrintWords Go.Proofs.YtcikcnkhcfhomaaDoorW.PrintMore Go.Proofs.YtcikcnkhcfhomaaDoor.Math

theorem list_of {α : Type} {p : Nat → α → Prop} : ∀ {n : Nat} (_ : ∀ i, i < n → ∃ x, p i x), ∃ l : List α, l.length = n ∧ ∀ i x, l[i]? = some x → p i x
  | 0, _ => ⟨[], rfl, fun i x h => by simp at h⟩
  | n + 1, h => by
    obtain ⟨l, hl, hp⟩ := list_of (n := n) (fun i hi => h i (by omega))
    obtain ⟨x, hx⟩ := h n (by omega)
    refine ⟨l ++ [x], by simp [hl], fun i y hy => ?_⟩
    rcases Nat.lt_or_ge i l.length with hi | hi
    · rw [List.getElem?_append_left hi] at hy; exact hp i y hy
    · rw [List.getElem?_append_right hi] at hy
      have h0 : i - l.length = 0 := by
        rcases Nat.eq_zero_or_pos (i - l.length) with h | h
        · exact h
        · rw [List.getElem?_eq_none (by simp; omega)] at hy; cases hy
      rw [h0] at hy
      simp at hy
      subst hy
      have : i = n := by omega
      subst this
      exact hx
/-- A slice's head: where, how many, room. -/
structure Hd where
  ad : Option Addr
  n : Nat
  c : Nat
def Hd.v (h : Hd) : Value := .slice h.ad h.n h.c
end Go.Proofs.YtcikcnkhcfhomaaDoor.Hand
/- Arguments of whatever kind, opened: the reading of memory gives the plain datum that it spells. -/
namespace Go.Proofs.YtcikcnkhcfhomaaDoor.Hand
open Go.ChangeShapes Go.WideShapes Go.ChangeAt
open Go.RowKit Go.Proofs.YtcikcnkhcfhomaaDoorW.PrintWords Go.Proofs.YtcikcnkhcfhomaaDoorW.PrintMore Go.Proofs.YtcikcnkhcfhomaaDoor.Math

/-- Whatever reads by this type spells a datum of this kind. -/
def Opens {α : Type} (t : TypeId) (d : Kd α) (good : α → Prop) : Prop :=
  ∀ (H : Type) (enc : TypeId × Value → H) (W : World) (base : Nat) (spare : Nat → Bool) (held : Bool) (fuel : Nat) (cs : List Value) (x : DataW H × List MemPlace), DataW.trod enc Tryd.prog W base spare held fuel t cs = some x →
    (∀ n ∈ x.1.weights Tryd.prog t, n ≤ reachBytes) → ∃ a, d.K W a cs ∧ good a
theorem Opens.int {t : TypeId} {k : IntKind} (ht : Tryd.prog.underlying t = some (.int k)) : Opens t (Kd.int k) (fun a => (Lit.int k a).wf = true) := by
  intro H enc W base spare held fuel cs x h _
  obtain ⟨n, rfl, _, hw⟩ := DataW.trod_int ht h
  exact ⟨n, rfl, hw⟩
theorem Opens.string {t : TypeId} (ht : Tryd.prog.underlying t = some .string) : Opens t Kd.string (fun s => s.size ≤ 140737488351232) := by
  intro H enc W base spare held fuel cs x h hw
  obtain ⟨s, rfl, rfl, _⟩ := DataW.trod_string ht h
  refine ⟨s, rfl, ?_⟩
  have := hw s.data.toList.length (by simp [DataW.weights])
  simpa [reachBytes] using this
theorem weightsAll_mem {H : Type} {P : Program} {e : TypeId} {d : DataW H} {n : Nat} : ∀ {l : List (DataW H)}, d ∈ l → n ∈ d.weights P e → n ∈ DataW.weightsAll P e l
  | [], h, _ => by cases h
  | a :: r, h, hn => by
    simp only [DataW.weightsAll, List.mem_append]
    rcases List.mem_cons.1 h with rfl | h
    · exact .inl hn
    · exact .inr (weightsAll_mem h hn)
theorem Opens.slice {α : Type} {t e : TypeId} {B : Nat} {d : Kd α} {good : α → Prop} (ht : Tryd.prog.underlying t = some (.slice e)) (he : Opens e d good) (hc : Tryd.prog.cellsOf e = d.sz) (hB : Tryd.prog.bytesOf e = B) :
    Opens t (Kd.slice e d) (fun l => l.length * B ≤ 140737488351232 ∧ ∀ x ∈ l, good x) := by
  intro H enc W base spare held fuel cs x h hw
  rcases Deep.open_slice ht h with ⟨rfl, rfl⟩ | ⟨a, len, cap, m, n, D, Pl, rfl, hb, hl, hm, hmm, rfl, hx⟩
  · exact ⟨[], ⟨none, 0, rfl, Nat.le_refl _, Kd.C_nil d W⟩, by simp, fun x hx => absurd hx (List.not_mem_nil)⟩
  · have hlm : len ≤ m := by rw [hmm]; split <;> omega
    simp only [DataW.weights, ht] at hw
    have hw1 := hw _ (List.mem_cons_self ..)
    simp only [List.length_map, List.length_range] at hw1
    have hw2 : ∀ i, i < len → ∀ k ∈ (D i).weights Tryd.prog e, k ≤ reachBytes := fun i hi k hk =>
      hw k (List.mem_cons_of_mem _ (List.mem_append_left _ (weightsAll_mem (List.mem_map.2 ⟨i, List.mem_range.2 hi, rfl⟩) hk)))
    obtain ⟨l, hll, hp⟩ := list_of (n := len) (p := fun i p => good p ∧ ∃ cs', d.K W p cs' ∧ ∀ j u, cs'[j]? = some u → W.cell? (a.add (i * d.sz + j)) = some u) (fun i hi => by
      obtain ⟨cs', h1, h2⟩ := hx i (by omega)
      obtain ⟨p, hk, hg⟩ := he H enc W base spare held n cs' _ h2 (hw2 i hi)
      obtain ⟨_, hlen, hcell⟩ := World.cells?_some h1
      refine ⟨p, hg, cs', hk, fun j u hu => ?_⟩
      have hj : j < Tryd.prog.cellsOf e := by rw [← hlen]; exact (List.getElem?_eq_some_iff.1 hu).1
      have := hcell j hj
      rw [Deep.add_add, hu, hc] at this
      exact this)
    subst hll
    refine ⟨l, ⟨some a, cap, rfl, hl, rfl, ?_, fun _ => ⟨a, rfl, fun j p hj => ?_⟩⟩, ?_, fun x hx => ?_⟩
    · have : maxLen = 9223372036854775807 := by decide
      omega
    · obtain ⟨_, cs', hk, hcell⟩ := hp j p hj
      exact ⟨cs', d.K_len hk, hk, hcell⟩
    · rw [hB] at hw1
      have h3 : l.length * B ≤ (l.length + (m - l.length)) * B := Nat.mul_le_mul_right _ (by omega)
      have h4 : (reachBytes : Nat) = 140737488351232 := by decide
      omega
    · obtain ⟨i, hi⟩ := List.getElem?_of_mem hx
      exact (hp i x hi).1
theorem Opens.pair {α β : Type} {t : TypeId} {f0 f1 : Field} {a : Kd α} {b : Kd β} {ga : α → Prop} {gb : β → Prop} (ht : Tryd.prog.underlying t = some (.struct #[f0, f1])) (o0 : f0.offset = 0) (o1 : f1.offset = a.sz) (c0 : Tryd.prog.cellsOf f0.type = a.sz) (c1 : Tryd.prog.cellsOf f1.type = b.sz) (ct : Tryd.prog.cellsOf t = a.sz + b.sz)
    (h0 : Opens f0.type a ga) (h1 : Opens f1.type b gb) : Opens t (Kd.pair a b) (fun x => ga x.1 ∧ gb x.2) := by
  intro H enc W base spare held fuel cs x h hw
  obtain ⟨y0, y1, n, rfl, hl, k0, k1⟩ := trod_struct2 ht h
  simp only [DataW.weights, ht, List.map_cons, List.map_nil, DataW.weightsEach, List.append_nil] at hw
  rw [o0, c0, List.drop_zero] at k0
  rw [o1, c1] at k1
  obtain ⟨x0, q0, g0⟩ := h0 H enc W base spare held n _ _ k0 (fun n hn => hw n (List.mem_append_left _ hn))
  obtain ⟨x1, q1, g1⟩ := h1 H enc W base spare held n _ _ k1 (fun n hn => hw n (List.mem_append_right _ hn))
  refine ⟨(x0, x1), ⟨cs.take a.sz, (cs.drop a.sz).take b.sz, ?_, q0, q1⟩, g0, g1⟩
  rw [List.take_of_length_le (show (cs.drop a.sz).length ≤ b.sz by rw [List.length_drop, hl, ct]; omega), List.take_append_drop]
section
set_option maxRecDepth 20000
variable {H : Type} {enc : TypeId × Value → H} {W : World} {base : Nat} {r : Reach} {b0 : Nat} {spare : Nat → Bool} {held : Bool} {v : Value} {d : DataW H} {ps : List MemPlace} {ts : List TypeId} {ds : List (DataW H)} {j : Nat}

theorem openSlice {α : Type} {t e : TypeId} {B : Nat} {k : Kd α} {good : α → Prop} (hu : Tryd.prog.underlying t = some (.slice e)) (he : Opens e k good) (hc : Tryd.prog.cellsOf e = k.sz) (hB : Tryd.prog.bytesOf e = B)
    (hsz : (DataW.weightsEach Tryd.prog ts ds).all (· ≤ reachBytes) = true) (ht : ts[j]? = some t) (hd : ds[j]? = some d) (hv : Value.okWide Tryd.prog W r b0 t v) (h : DataW.Trod enc Tryd.prog W base spare held t v d ps) :
    ∃ (A : Option Addr) (c : Nat) (l : List α), v = .slice A l.length c ∧ k.C W A l.length l ∧ l.length * B ≤ 140737488351232 ∧ l.length ≤ c ∧ ∀ x ∈ l, good x := by
  obtain ⟨a, len, cap, rfl⟩ := okWide_slice hu hv
  obtain ⟨fuel, hf⟩ := h
  obtain ⟨l, ⟨A, c, hcs, hlc, hC⟩, hb, hg⟩ := (Opens.slice hu he hc hB) H enc W base spare held fuel _ _ hf (fun n hn => by
    have := List.all_eq_true.1 hsz n (DataW.weights_mem_each ht hd n hn)
    simpa using this)
  simp [Value.cells] at hcs
  obtain ⟨rfl, rfl, rfl⟩ := hcs
  exact ⟨_, _, l, rfl, hC, hb, hlc, hg⟩
theorem opens_i64 : Opens 3 (Kd.int .i64) (fun a => (Lit.int .i64 a).wf = true) := Opens.int Tryd.underlying3
theorem opens_ints : Opens 22 (Kd.slice 3 (Kd.int .i64)) (fun l => l.length * 8 ≤ 140737488351232 ∧ ∀ x ∈ l, (Lit.int .i64 x).wf = true) := Opens.slice Tryd.underlying22 opens_i64 (by kernel_rfl) (by kernel_rfl)
theorem openInts (hsz : (DataW.weightsEach Tryd.prog ts ds).all (· ≤ reachBytes) = true) (ht : ts[j]? = some 22) (hd : ds[j]? = some d) (hv : Value.okWide Tryd.prog W r b0 22 v) (h : DataW.Trod enc Tryd.prog W base spare held 22 v d ps) :
    ∃ (A : Option Addr) (c : Nat) (l : List Int), v = .slice A l.length c ∧ Kd.C (Kd.int .i64) W A l.length l ∧ l.length * 8 ≤ 140737488351232 ∧ l.length ≤ c ∧ ∀ x ∈ l, (Lit.int .i64 x).wf = true :=
  openSlice Tryd.underlying22 opens_i64 (by kernel_rfl) (by kernel_rfl) hsz ht hd hv h
theorem opens_strings : Opens 68 (Kd.slice 9 Kd.string) (fun l => l.length * 16 ≤ 140737488351232 ∧ ∀ x ∈ l, x.size ≤ 140737488351232) := Opens.slice Tryd.underlying68 (Opens.string Tryd.underlying9) (by kernel_rfl) (by kernel_rfl)
theorem openStrings (hsz : (DataW.weightsEach Tryd.prog ts ds).all (· ≤ reachBytes) = true) (ht : ts[j]? = some 68) (hd : ds[j]? = some d) (hv : Value.okWide Tryd.prog W r b0 68 v) (h : DataW.Trod enc Tryd.prog W base spare held 68 v d ps) :
    ∃ (A : Option Addr) (c : Nat) (l : List ByteArray), v = .slice A l.length c ∧ Kd.C Kd.string W A l.length l ∧ l.length * 16 ≤ 140737488351232 ∧ l.length ≤ c ∧ ∀ x ∈ l, x.size ≤ 140737488351232 :=
  openSlice Tryd.underlying68 (Opens.string Tryd.underlying9) (by kernel_rfl) (by kernel_rfl) hsz ht hd hv h
end
end Go.Proofs.YtcikcnkhcfhomaaDoor.Hand
/- PlanMiddle: each place is the middle of one join. -/
namespace Go.Proofs.YtcikcnkhcfhomaaDoor.Hand
open Go.RowKit Go.Proofs.YtcikcnkhcfhomaaDoorW.PrintWords Go.Proofs.YtcikcnkhcfhomaaDoorW.PrintMore Go.Proofs.YtcikcnkhcfhomaaDoor.Math

/-- The memory of PlanMiddle's second loop. -/
structure PMid (w1 w : World) (gh gb M : Nat) (on : List Nat) (L : List (Nat × Nat × Nat)) (j : Nat) (S : List Nat) (hit bg : Nat → Int) : Prop where
  rh : Row w gh M (fun q => .int .i64 (hit q))
  rb : Row w gb (M + 1) (fun q => .int .i64 (bg q))
  st : Starts M S
  len : S.length + j = M
  ord : OrdOk S.length (on.drop j)
  eq : joinL M S (on.drop j) = L.drop j
  be : BegIs M S bg
  hi : HitIs M S hit
  ne : gh ≠ gb
  bel : Below w1.heap.size w1 w
  h1 : w1.heap.size ≤ gh
  h2 : w1.heap.size ≤ gb
set_option maxHeartbeats 4000000 in
set_option maxRecDepth 100000 in
theorem planMiddle_walk {w : World} (m : Int) (hm : (Lit.int .i64 m).wf = true) (A : Option Addr) (c : Nat) (o : List Int) (y : Kd.C (Kd.int .i64) w A o.length o ∧ o.length * 8 ≤ 140737488351232 ∧ o.length ≤ c ∧ ∀ x ∈ o, (Lit.int .i64 x).wf = true) (hE : ∃ Ae, ErrsL [0, 7, 8] w Ae) :
    Calls Tryd.prog 3 #[.int .i64 m, .slice A o.length c] w fun e w' => e = .returned (.bool true) ∧ Below w.heap.size w w' := by
  obtain ⟨Ae, hE⟩ := hE
  have hmb : -9223372036854775808 ≤ m ∧ m ≤ 9223372036854775807 := by simpa [Lit.wf, IntKind.min, IntKind.max, IntKind.bits, IntKind.signed] using hm
  have HJ := Lib.hid (joins_calls m A c o w Ae (hE.sub (by decide)) y.1 hmb (by have := y.2.1; omega))
  have HAw : Hid (∀ W, Below w.heap.size w W → Calls Tryd.prog 11 #[] W fun e w' => e = .returned (.bool true) ∧ Below W.heap.size W w') := Lib.hid (fun W h => awake_calls W Ae (hE.below h))
  clear hm hE y
  go_enter Tryd.func3, Tryd.ntmps3
  go_wp2_with (fail)
  go_at_call 10
  refine HJ.out.mono ?_
  rintro e w1 ⟨hb1, hcase⟩
  have HB1 := Lib.hid hb1
  clear hb1
  rcases hcase with ⟨k, hk, rfl⟩ | ⟨h0, v, rfl, hv⟩
  · clear hk
    go_wp2_with (go_at_call 11; refine (HAw.out _ HB1.out).mono ?_; rintro e w2 ⟨rfl, hb⟩; have HB2 := Lib.hid hb; clear hb)
    go_ret
    exact ⟨ret_bool (by simp), below_next HB1.out HB2.out⟩
  · by_cases hbig : 3000 < m
    · clear h0
      obtain ⟨B, d, rfl⟩ := Kd.R_slice hv
      clear hv
      go_wp2_with (go_at_call 11; refine (HAw.out _ HB1.out).mono ?_; rintro e w2 ⟨rfl, hb⟩; have HB2 := Lib.hid hb; clear hb)
      go_ret
      exact ⟨ret_bool (by simp), below_next HB1.out HB2.out⟩
    · obtain ⟨hm1, hol, -, hok⟩ := ordE_ok h0
      obtain ⟨M, rfl⟩ : ∃ M : Nat, m = (M : Int) := ⟨m.toNat, by omega⟩
      rw [Int.toNat_natCast] at hv hok
      obtain ⟨on, hon⟩ : ∃ on, o.map Int.toNat = on := ⟨_, rfl⟩
      have hln : on.length + 1 = M := by rw [← hon, List.length_map]; omega
      rw [hon] at hv hok
      obtain ⟨L, hLd⟩ : ∃ L, joinL M (List.range M) on = L := ⟨_, rfl⟩
      have hLl : L.length + 1 = M := by rw [← hLd, joinL_length]; exact hln
      have HLast : Hid (0 < L.length → ∃ b, L[L.length - 1]? = some (0, b, M)) := Lib.hid (fun h => by
        rw [← hLd] at h ⊢
        rw [joinL_length] at h ⊢
        exact joinL_last M on _ (Starts.range M) (by rw [List.length_range]; exact hok) (by rw [List.length_range]; omega) h)
      rw [hLd] at hv
      obtain ⟨B, d, rfl⟩ := Kd.R_slice hv
      have HV := Lib.hid (Kd.R_reads' hv).2.2
      have hcap := (Kd.R_reads' hv).2.1
      simp only [List.length_map] at HV hcap
      rw [List.length_map]
      have hM : M ≤ 3000 := by omega
      have hM1 : 1 ≤ M := by omega
      have HLd := Lib.hid hLd
      have HOk := Lib.hid hok
      clear h0 hv hok hLd hon hol
      go_upto_region 4 with (go_at_call 11; refine (HAw.out _ HB1.out).mono ?_; rintro e w2 ⟨rfl, hb⟩; have HB2 := Lib.hid hb; clear hb)
      have hmk : ∀ W : World, (Instr.makeSlice 22 (.int .i64 (M : Int)) (.int .i64 (M : Int))).run Tryd.prog W = .ok (.slice (some ⟨W.heap.size, 0, none⟩) M M) (W.alloc (.cells (madeCells #[.int .i64 0] M) 3)) := fun W =>
        print_make_of (P := Tryd.prog) 22 3 (.int .i64 0) 8 Tryd.underlying22 infoInt3 rfl (by decide) M (by omega) W
      have hmk1 : ∀ W : World, (Instr.makeSlice 22 (.int .i64 ((M : Int) + 1)) (.int .i64 ((M : Int) + 1))).run Tryd.prog W = .ok (.slice (some ⟨W.heap.size, 0, none⟩) (M + 1) (M + 1)) (W.alloc (.cells (madeCells #[.int .i64 0] (M + 1)) 3)) := fun W => by
        have h := print_make_of (P := Tryd.prog) 22 3 (.int .i64 0) 8 Tryd.underlying22 infoInt3 rfl (by decide) (M + 1) (by omega) W
        rw [show ((M + 1 : Nat) : Int) = (M : Int) + 1 from by omega] at h
        exact h
      obtain ⟨wa, hwa⟩ : ∃ wa, w2.alloc (.cells (madeCells #[.int .i64 0] M) 3) = wa := ⟨_, rfl⟩
      obtain ⟨wb, hwb⟩ : ∃ wb, wa.alloc (.cells (madeCells #[.int .i64 0] (M + 1)) 3) = wb := ⟨_, rfl⟩
      have hba : Below w2.heap.size w2 wa := by rw [← hwa]; exact below_alloc (Below.refl _ _) _
      have hbb : Below wa.heap.size wa wb := by rw [← hwb]; exact below_alloc (Below.refl _ _) _
      have hra : Row wa w2.heap.size M (fun _ => .int .i64 0) := by rw [← hwa]; exact Row.made w2 _ _ _
      have hrb : Row wb wa.heap.size (M + 1) (fun _ => .int .i64 0) := by rw [← hwb]; exact Row.made wa _ _ _
      have hsa : wa.heap.size = w2.heap.size + 1 := by rw [← hwa]; simp
      have HRa := Lib.hid (hra.below hbb)
      have HRb := Lib.hid hrb
      have HBb := Lib.hid (below_next HB2.out (below_next hba hbb))
      have HSz := Lib.hid (show w1.heap.size ≤ w2.heap.size from HB2.out.size)
      have HSA := Lib.hid hsa
      clear hba hbb hra hrb hsa
      go_wp2
      clear hwa hwb hmk hmk1
      go_loopw [9] (fun x wr => ∃ i : Nat, x = .int .i64 i ∧ i ≤ M ∧ Hid (∃ bg : Nat → Int, Row wr w2.heap.size M (fun _ => .int .i64 0) ∧ Row wr wa.heap.size (M + 1) (fun q => .int .i64 (bg q)) ∧ (∀ q, q < i → bg (q + 1) = (q : Int)) ∧ Below w1.heap.size w1 wr)) (fun x _ => M - (intOf x).toNat)
      case atStart => exact ⟨0, rfl, by omega, Lib.hid ⟨fun _ => 0, HRa.out, HRb.out, fun q h => by omega, HBb.out⟩⟩
      case round =>
        obtain ⟨i, rfl, hi, HS⟩ := hrel
        obtain ⟨bg, k1, k2, k3, k4⟩ := HS.out
        by_cases hlt : i < M
        · have ci := k2.cell (i + 1) (by omega)
          have fi := k2.free (i + 1)
          have hi1 : (i : Int) + 1 < (M : Int) + 1 := by omega
          have hi2 : i + 1 < M + 1 := by omega
          have HK1 := Lib.hid k1
          have HK2 := Lib.hid k2
          have HK3 := Lib.hid k3
          have HK4 := Lib.hid k4
          clear k1 k2 k3 k4
          go_wp2
          go_roundw
          case rel => exact ⟨i + 1, by go_num, by omega, Lib.hid ⟨fun q => if q = i + 1 then (i : Int) else bg q, HK1.out.far _ (by show wa.heap.size ≠ w2.heap.size; have := HSA.out; omega) _, (HK2.out.set (i + 1) (by omega) _).ext (fun q _ => by show (if q = i + 1 then Value.int .i64 (i : Int) else Value.int .i64 (bg q)) = Value.int .i64 (if q = i + 1 then (i : Int) else bg q); split <;> rfl), fun q hq => by
            show (if q + 1 = i + 1 then (i : Int) else bg (q + 1)) = (q : Int)
            by_cases e : q = i
            · rw [if_pos (by omega), e]
            · rw [if_neg (by omega)]; exact HK3.out q (by omega), HK4.out.setCell (by show w1.heap.size ≤ wa.heap.size; have := HSz.out; have := HSA.out; omega) _⟩⟩
          case measure => simp [intOf]; omega
        · obtain rfl : i = M := by omega
          have HS0 : Hid (∃ S hit bg, PMid w1 wr w2.heap.size wa.heap.size i on L 0 S hit bg) := Lib.hid ⟨List.range i, fun _ => 0, bg,
            ⟨k1, k2, Starts.range i, by simp, by rw [List.length_range]; exact HOk.out, by simpa using HLd.out, BegIs.range i k3, HitIs.range i (fun _ _ => rfl), by have := HSA.out; omega, k4, HSz.out, by have := HSz.out; have := HSA.out; omega⟩⟩
          clear k1 k2 k3 k4
          obtain ⟨wo, rfl⟩ : ∃ wo : World, wo = wr := ⟨_, rfl⟩
          go_wp2
          go_loopw [10] (fun x wr => ∃ j : Nat, x = .int .i64 j ∧ j ≤ L.length ∧ Hid (∃ S hit bg, PMid w1 wr w2.heap.size wa.heap.size i on L j S hit bg)) (fun x _ => L.length - (intOf x).toNat)
          case atStart => exact ⟨0, rfl, by omega, HS0⟩
          case round =>
            obtain ⟨j, rfl, hj, HS⟩ := hrel
            obtain ⟨S, hit, bg, HP⟩ := HS.out
            have HP := Lib.hid HP
            by_cases hlt : j < L.length
            · obtain ⟨⟨a, b, c3⟩, hLj⟩ : ∃ p, L[j] = p := ⟨_, rfl⟩
              have hjn : j < on.length := by omega
              obtain ⟨k, hk⟩ : ∃ k, on[j] = k := ⟨_, rfl⟩
              have hdrop : on.drop j = k :: on.drop (j + 1) := by rw [List.drop_eq_getElem_cons hjn, hk]
              have hho := HP.out.ord
              rw [hdrop] at hho
              have hh := hho.head
              have heq := HP.out.eq
              rw [hdrop, joinL, List.drop_eq_getElem_cons hlt, hLj, List.cons.injEq] at heq
              obtain ⟨e1, e2⟩ := heq
              simp only [Prod.mk.injEq] at e1
              obtain ⟨e0, eb, ec⟩ := e1
              have ea : S.getD k i = a := by
                rw [getD_at (show k < S.length by omega)] at e0 ⊢
                exact e0
              have hab : a < b := by rw [← ea, ← eb]; exact HP.out.st.getD_lt (by omega) (by omega)
              have hbc : b < c3 := by rw [← eb, ← ec]; exact HP.out.st.getD_lt hh.1 (by omega)
              have hcM : c3 ≤ i := by rw [← ec]; exact HP.out.st.getD_le _
              have hbb : bg b = (a : Int) := by have := HP.out.be k (by omega); rwa [eb, ea] at this
              have hbc2 : bg c3 = (b : Int) := by have := HP.out.be (k + 1) hh.1; rwa [show k + 1 + 1 = k + 2 from rfl, ec, eb] at this
              have hhit : hit b = 0 := by rw [HP.out.hi b (by omega) (by omega), if_pos]; rw [← eb, getD_at hh.1]; exact List.getElem_mem _
              have HNx : Hid (∀ hit2 bg2 : Nat → Int, (∀ q, bg2 q = if q = b then -1 else if q = c3 then (a : Int) else bg q) → (∀ q, hit2 q = hit q + if q = b then 1 else 0) → BegIs i (S.eraseIdx (k + 1)) bg2 ∧ HitIs i (S.eraseIdx (k + 1)) hit2) := Lib.hid (fun hit2 bg2 h1 h2 =>
                ⟨HP.out.be.erase HP.out.st hh.1 (fun q => by rw [h1, eb, ec, ea]), HP.out.hi.erase HP.out.st hh.1 (fun q => by rw [h2, eb])⟩)
              have HH := Lib.hid hh
              have HE2 := Lib.hid e2
              obtain ⟨ad, x, y, z, rfl, hx, hy, hz, HX⟩ := at_K3 (by rw [List.length_map]; exact Kd.C_below HV.out HP.out.bel) j (by rw [List.length_map]; exact hlt)
              obtain ⟨rfl, rfl, rfl⟩ : (x = (a : Int)) ∧ (y = (b : Int)) ∧ z = (c3 : Int) := by
                have h := HX.out
                rw [List.getD_eq_getElem?_getD, List.getElem?_map, List.getElem?_eq_getElem hlt, hLj] at h
                simp [tI] at h
                exact ⟨h.1.symm, h.2.1.symm, h.2.2.symm⟩
              have hg1 := HP.out.rh.lt
              have hg2 := HP.out.rb.lt
              clear hho hh hdrop e0 eb ec ea e2 hk
              go_upto_region 14 with (fail)
              obtain ⟨w5, hw5⟩ : ∃ w5, wr.alloc (.cells #[.int .i64 (a : Int), .int .i64 (b : Int), .int .i64 (c3 : Int)] 29) = w5 := ⟨_, rfl⟩
              rw [hw5]
              have hb5 : Below wr.heap.size wr w5 := by rw [← hw5]; exact below_alloc (Below.refl _ _) _
              have q0 : w5.cell? ⟨wr.heap.size, 0, none⟩ = some (.int .i64 (a : Int)) := by rw [← hw5]; simp [go_sem]
              have q1 : w5.cell? ⟨wr.heap.size, 1, none⟩ = some (.int .i64 (b : Int)) := by rw [← hw5]; simp [go_sem]
              have q2 : w5.cell? ⟨wr.heap.size, 2, none⟩ = some (.int .i64 (c3 : Int)) := by rw [← hw5]; simp [go_sem]
              have hrb := HP.out.rb.below hb5
              have hrh := HP.out.rh.below hb5
              have db : w5.cell? ⟨wa.heap.size, b, none⟩ = some (.int .i64 (a : Int)) := by rw [← hbb]; exact hrb.cell b (by omega)
              have dc : w5.cell? ⟨wa.heap.size, c3, none⟩ = some (.int .i64 (b : Int)) := by rw [← hbc2]; exact hrb.cell c3 (by omega)
              have HRb5 := Lib.hid hrb
              have HRh5 := Lib.hid hrh
              have HB5 := Lib.hid (HP.out.bel.trans (hb5.mono HP.out.bel.size))
              have HHit := Lib.hid hhit
              have t1 : decide ((a : Int) < 0) = false := by rw [decide_eq_false_iff_not]; omega
              have t2 : decide ((b : Int) ≤ (a : Int)) = false := by rw [decide_eq_false_iff_not]; omega
              have t3 : decide ((c3 : Int) ≤ (b : Int)) = false := by rw [decide_eq_false_iff_not]; omega
              have t4 : decide ((i : Int) < (c3 : Int)) = false := by rw [decide_eq_false_iff_not]; omega
              have t2n : decide (b ≤ a) = false := by rw [decide_eq_false_iff_not]; omega
              have t3n : decide (c3 ≤ b) = false := by rw [decide_eq_false_iff_not]; omega
              have t4n : decide (i < c3) = false := by rw [decide_eq_false_iff_not]; omega
              have b1 : b < i + 1 := by omega
              have b2 : c3 < i + 1 := by omega
              have b3 : b < i := by omega
              clear hw5 hb5 hrb hrh hbb hbc2 hhit hx hy hz hLj
              go_quiet (fail)
              obtain ⟨w6, hw6⟩ : ∃ w6, w5.drewN nq = w6 := ⟨_, rfl⟩
              rw [hw6]
              have p0 : w6.cell? ⟨wr.heap.size, 0, none⟩ = some (.int .i64 (a : Int)) := by rw [← hw6]; simpa using q0
              have p1 : w6.cell? ⟨wr.heap.size, 1, none⟩ = some (.int .i64 (b : Int)) := by rw [← hw6]; simpa using q1
              have p2 : w6.cell? ⟨wr.heap.size, 2, none⟩ = some (.int .i64 (c3 : Int)) := by rw [← hw6]; simpa using q2
              have rb6 : Row w6 wa.heap.size (i + 1) (fun q => .int .i64 (bg q)) := by rw [← hw6]; exact HRb5.out.drewN nq
              have rh6 : Row w6 w2.heap.size i (fun q => .int .i64 (hit q)) := by rw [← hw6]; exact HRh5.out.drewN nq
              have hb6 : Below w1.heap.size w1 w6 := by rw [← hw6]; exact pw_below_drewN HB5.out nq
              have cc := rb6.cell c3 (by omega)
              have fc := rb6.free c3
              have HRb6 := Lib.hid rb6
              have HRh6 := Lib.hid rh6
              have HB6 := Lib.hid hb6
              have P1 := Lib.hid p1
              clear q0 q1 q2 db dc hw6 rb6 rh6 hb6
              go_upto_region 17 with (fail)
              obtain ⟨w7, hw7⟩ : ∃ w7, w6.setCell ⟨wa.heap.size, c3, none⟩ (.int .i64 (a : Int)) = w7 := ⟨_, rfl⟩
              rw [hw7]
              have p1 : w7.cell? ⟨wr.heap.size, 1, none⟩ = some (.int .i64 (b : Int)) := by
                rw [← hw7]
                refine (World.cell?_setCell_other _ _ _ _ (by intro e; injection e with e; omega)).trans P1.out
              have rb7 : Row w7 wa.heap.size (i + 1) (fun q => .int .i64 (if q = c3 then (a : Int) else bg q)) := by rw [← hw7]; exact (HRb6.out.set c3 (by omega) _).ext (fun q _ => by split <;> rfl)
              have rh7 : Row w7 w2.heap.size i (fun q => .int .i64 (hit q)) := by rw [← hw7]; exact HRh6.out.far _ (by show wa.heap.size ≠ w2.heap.size; have := HSA.out; omega) _
              have hb7 : Below w1.heap.size w1 w7 := by rw [← hw7]; exact HB6.out.setCell (by show w1.heap.size ≤ wa.heap.size; have := HSz.out; have := HSA.out; omega) _
              have cb7 := rb7.cell b (by omega)
              have fb7 := rb7.free b
              have HRb7 := Lib.hid rb7
              have HRh7 := Lib.hid rh7
              have HB7 := Lib.hid hb7
              have P7 := Lib.hid p1
              clear p0 p2 hw7 rb7 rh7 hb7 cc fc
              go_upto_region 18 with (fail)
              obtain ⟨w8, hw8⟩ : ∃ w8, w7.setCell ⟨wa.heap.size, b, none⟩ (.int .i64 (-1)) = w8 := ⟨_, rfl⟩
              rw [hw8]
              have p1 : w8.cell? ⟨wr.heap.size, 1, none⟩ = some (.int .i64 (b : Int)) := by
                rw [← hw8]
                refine (World.cell?_setCell_other _ _ _ _ (by intro e; injection e with e; omega)).trans P7.out
              have rb8 : Row w8 wa.heap.size (i + 1) (fun q => .int .i64 (if q = b then -1 else if q = c3 then (a : Int) else bg q)) := by rw [← hw8]; exact (HRb7.out.set b (by omega) _).ext (fun q _ => by split <;> rfl)
              have rh8 : Row w8 w2.heap.size i (fun q => .int .i64 (hit q)) := by rw [← hw8]; exact HRh7.out.far _ (by show wa.heap.size ≠ w2.heap.size; have := HSA.out; omega) _
              have hb8 : Below w1.heap.size w1 w8 := by rw [← hw8]; exact HB7.out.setCell (by show w1.heap.size ≤ wa.heap.size; have := HSz.out; have := HSA.out; omega) _
              have ch8 : w8.cell? ⟨w2.heap.size, b, none⟩ = some (.int .i64 0) := by rw [← HHit.out]; exact rh8.cell b (by omega)
              have fh8 := rh8.free b
              have HRb8 := Lib.hid rb8
              have HRh8 := Lib.hid rh8
              have HB8 := Lib.hid hb8
              clear hw8 rb8 rh8 hb8 cb7 fb7
              go_wp2
              go_roundw
              case rel =>
                refine ⟨j + 1, by go_num, by omega, Lib.hid ⟨S.eraseIdx (k + 1), fun q => hit q + if q = b then 1 else 0, fun q => if q = b then -1 else if q = c3 then (a : Int) else bg q, ?_⟩⟩
                have hl2 : (S.eraseIdx (k + 1)).length = S.length - 1 := by rw [List.length_eraseIdx, if_pos HH.out.1]
                have hnx := HNx.out (fun q => hit q + if q = b then 1 else 0) (fun q => if q = b then -1 else if q = c3 then (a : Int) else bg q) (fun _ => rfl) (fun _ => rfl)
                refine ⟨(HRh8.out.set b (by omega) _).ext (fun q _ => ?_), HRb8.out.far _ (by show w2.heap.size ≠ wa.heap.size; have := HSA.out; omega) _, HP.out.st.erase k, by have := HP.out.len; have := HH.out.1; omega, by rw [hl2]; exact HH.out.2, HE2.out, hnx.1, hnx.2, HP.out.ne, HB8.out.setCell (by show w1.heap.size ≤ w2.heap.size; exact HSz.out) _, HP.out.h1, HP.out.h2⟩
                show (if q = b then Value.int .i64 1 else Value.int .i64 (hit q)) = Value.int .i64 (hit q + if q = b then 1 else 0)
                by_cases e : q = b
                · rw [if_pos e, if_pos e, e, HHit.out]; rfl
                · rw [if_neg e, if_neg e, Int.add_zero]
              case measure => simp [intOf]; omega
            · obtain rfl : j = L.length := by omega
              have hS1 : S = [0] := HP.out.st.one (by have := HP.out.len; omega)
              have hh1 : Hid (∀ q, 0 < q → q < i → hit q = 1) := Lib.hid (fun q h0 h1 => by
                rw [HP.out.hi q h0 h1, hS1, if_neg (by simp; omega)])
              obtain ⟨wo, rfl⟩ : ∃ wo : World, wo = wr := ⟨_, rfl⟩
              clear hS1
              go_wp2
              go_loopw [12] (fun x wr => ∃ q : Nat, x = .int .i64 q ∧ 1 ≤ q ∧ q ≤ i ∧ wr = wo) (fun x _ => i - (intOf x).toNat)
              case atStart => exact ⟨1, rfl, by omega, by omega, by first | rfl | trivial⟩
              case round =>
                obtain ⟨q, rfl, hq0, hq1, rfl⟩ := hrel
                by_cases hlt2 : q < i
                · have cq := HP.out.rh.cell q hlt2
                  rw [hh1.out q (by omega) hlt2] at cq
                  go_wp2
                  go_roundw
                  case rel => exact ⟨q + 1, by go_num, by omega, by omega, by first | rfl | trivial⟩
                  case measure => simp [intOf]; omega
                · have hle : ((L.length : Int) == (i : Int) - 1) = true := by simp; omega
                  have HBE := Lib.hid (HB1.out.trans (HP.out.bel.mono HB1.out.size))
                  by_cases h2 : i < 2
                  · have h2i : decide ((i : Int) < 2) = true := by simp; omega
                    go_wp2
                    go_ret
                    exact ⟨ret_bool (by simp), HBE.out⟩
                  · have h2i : decide ((i : Int) < 2) = false := by rw [decide_eq_false_iff_not]; omega
                    obtain ⟨b, hb⟩ := HLast.out (by omega)
                    obtain ⟨N, hN⟩ : ∃ N : Nat, (i : Int) - 2 = (N : Int) := ⟨i - 2, by omega⟩
                    have hNl : N < L.length := by omega
                    have hb2 : L[N]? = some (0, b, i) := by rw [← hb]; congr 1; omega
                    obtain ⟨ad, x, y, z, rfl, hx, hy, hz, HX⟩ := at_K3 (by rw [List.length_map]; exact Kd.C_below HV.out HP.out.bel) N (by rw [List.length_map]; exact hNl)
                    obtain ⟨rfl, rfl, rfl⟩ : (x = 0) ∧ (y = (b : Int)) ∧ z = (i : Int) := by
                      have h := HX.out
                      rw [List.getD_eq_getElem?_getD, List.getElem?_map, hb2] at h
                      simp [tI] at h
                      exact ⟨h.1.symm, h.2.1.symm, h.2.2.symm⟩
                    clear hb hb2
                    go_wp2
                    go_ret
                    exact ⟨ret_bool (by simp), HBE.out⟩
end Go.Proofs.YtcikcnkhcfhomaaDoor.Hand
