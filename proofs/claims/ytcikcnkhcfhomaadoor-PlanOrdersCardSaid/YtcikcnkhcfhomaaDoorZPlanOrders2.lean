/- The texts that the statement's proof stands on, part 2: XPlText XPlAwake XPlOrdM XPlOrd XPlEven XPlOrdR XHd XApC XApM XApart XHdR XEq XPlOrders. -/
import Derived.Test.YtcikcnkhcfhomaaDoorZPlanOrders1
import Derived.Test.YtcikcnkhcfhomaaDoorShelf
import Derived.ArgAppend
/- Contracts: plan.Text. -/
namespace Go.Proofs.YtcikcnkhcfhomaaDoor.Hand
open Go.RowKit Go.Proofs.YtcikcnkhcfhomaaDoorW.PrintWords Go.Proofs.YtcikcnkhcfhomaaDoorW.PrintMore Go.Proofs.YtcikcnkhcfhomaaDoor.Math

def decB (i : Nat) : ByteArray := ⟨(Lib.decDigits i).toArray⟩
def pB (a b : ByteArray) : ByteArray := (⟨#[40]⟩ : ByteArray) ++ a ++ ⟨#[32]⟩ ++ b ++ ⟨#[41]⟩
/-- The texts after the joins. -/
def txtF : List (Nat × Nat × Nat) → (Nat → ByteArray) → (Nat → ByteArray)
  | [], T => T
  | x :: r, T => txtF r (fun i => if i = x.2.1 then ⟨#[]⟩ else if i = x.1 then pB (T x.1) (T x.2.1) else T i)
def sumS (T : Nat → ByteArray) : Nat → Nat
  | 0 => 0
  | n + 1 => sumS T n + (T n).size
theorem sumS_ge (T : Nat → ByteArray) : ∀ (n i : Nat), i < n → (T i).size ≤ sumS T n
  | n + 1, i, h => by
    rw [sumS]
    rcases Nat.lt_or_ge i n with h1 | h1
    · have := sumS_ge T n i h1; omega
    · obtain rfl : i = n := by omega
      omega
theorem sumS_ext {T U : Nat → ByteArray} : ∀ (n : Nat), (∀ i, i < n → (T i).size = (U i).size) → sumS T n = sumS U n
  | 0, _ => rfl
  | n + 1, h => by rw [sumS, sumS, sumS_ext n (fun i hi => h i (by omega)), h n (by omega)]
theorem sumS_one {T : Nat → ByteArray} {a : Nat} {v : ByteArray} : ∀ (n : Nat), a < n → sumS (fun i => if i = a then v else T i) n + (T a).size = sumS T n + v.size
  | n + 1, h => by
    rw [sumS, sumS]
    rcases Nat.lt_or_ge a n with h1 | h1
    · have := sumS_one (T := T) (v := v) n h1
      rw [if_neg (by omega)]
      omega
    · obtain rfl : a = n := by omega
      rw [if_pos rfl, sumS_ext (T := fun i => if i = a then v else T i) (U := T) a (fun i hi => by simp [show i ≠ a by omega])]
      omega
theorem pB_size (a b : ByteArray) : (pB a b).size = a.size + b.size + 3 := by
  unfold pB
  rw [ByteArray.size_append, ByteArray.size_append, ByteArray.size_append, ByteArray.size_append]
  show 1 + a.size + 1 + b.size + 1 = _
  omega
theorem sumS_join {T : Nat → ByteArray} {n a b : Nat} (ha : a < n) (hb : b < n) (hne : a ≠ b) : sumS (fun i => if i = b then ⟨#[]⟩ else if i = a then pB (T a) (T b) else T i) n = sumS T n + 3 := by
  have h1 := sumS_one (T := fun i => if i = a then pB (T a) (T b) else T i) (a := b) (v := ⟨#[]⟩) n hb
  have h2 := sumS_one (T := T) (a := a) (v := pB (T a) (T b)) n ha
  rw [pB_size] at h2
  rw [if_neg (fun h => hne h.symm)] at h1
  have e : (⟨#[]⟩ : ByteArray).size = 0 := rfl
  rw [e] at h1
  omega
theorem decDigits_len : ∀ (k n : Nat), n < 10 ^ (k + 1) → (Lib.decDigits n).length ≤ k + 1
  | 0, n, h => by
    rw [Lib.decDigits]
    simp at h
    simp [h]
  | k + 1, n, h => by
    rw [Lib.decDigits]
    split
    · simp
    · have := decDigits_len k (n / 10) (by rw [Nat.pow_succ] at h; omega)
      simp
      omega
theorem joinL_mem {m : Nat} : ∀ (o S : List Nat), Starts m S → OrdOk S.length o → ∀ x ∈ joinL m S o, x.1 < x.2.1 ∧ x.2.1 < m
  | [], _, _, _, x, hx => by cases hx
  | k :: r, S, hS, ho, x, hx => by
    have hh := ho.head
    have hl : (S.eraseIdx (k + 1)).length = S.length - 1 := by rw [List.length_eraseIdx, if_pos hh.1]
    rw [joinL, List.mem_cons] at hx
    rcases hx with rfl | hx
    · show S.getD k 0 < S.getD (k + 1) m ∧ S.getD (k + 1) m < m
      rw [getD_at (d := 0) (show k < S.length by omega), getD_at hh.1]
      exact ⟨getElem_lt_of hS.up hh.1 (by omega), hS.lt _ (List.getElem_mem _)⟩
    · exact joinL_mem r _ (hS.erase k) (by rw [hl]; exact hh.2) x hx
theorem infoStr : (Tryd.prog.info? 9).map (fun i => (i.zero, i.size, i.bytes)) = some (some (.string ⟨#[]⟩), 1, 16) := by kernel_rfl
/-- The memory of Text's second loop. -/
def TSt (w1 w : World) (M : Nat) (L : List (Nat × Nat × Nat)) (j : Nat) : Prop :=
  ∃ T : Nat → ByteArray, Row w w1.heap.size M (fun q => .string (T q)) ∧ txtF (L.drop j) T 0 = txtF L decB 0 ∧ sumS T M ≤ 4 * M + 3 * j ∧ Below w1.heap.size w1 w
set_option maxHeartbeats 2000000 in
set_option maxRecDepth 20000 in
theorem text_calls (m : Int) (A : Option Addr) (c : Nat) (o : List Int) (w : World) (Ae : Nat → Addr) (hE : ErrsL [0, 8] w Ae) (hr : Kd.C (Kd.int .i64) w A o.length o) (hm : -9223372036854775808 ≤ m ∧ m ≤ 9223372036854775807) (hl : o.length ≤ 17592186044415)
    (hI : ∀ i : Nat, i < 4096 → (i : Int) < m → ∀ W, Below w.heap.size w W → Calls Tryd.prog 44 #[.int .i64 i] W fun e w' => e = .returned (.string (decB i)) ∧ Below W.heap.size W w') :
    Calls Tryd.prog 27 #[.int .i64 m, .slice A o.length c] w fun e w' => Below w.heap.size w w' ∧ ((∃ k, ordE m o = k + 1 ∧ e = .returned (.tuple #[.string ⟨#[]⟩, .iface 133 (.pointer (some (Ae k)))])) ∨
      (ordE m o = 0 ∧ 4096 < m ∧ e = .returned (.tuple #[.string ⟨#[]⟩, .iface 133 (.pointer (some (Ae 0)))])) ∨
      (ordE m o = 0 ∧ m ≤ 4096 ∧ e = .returned (.tuple #[.string (txtF (joinL m.toNat (List.range m.toNat) (o.map Int.toNat)) decB 0), .nilIface]))) := by
  have HJ := Lib.hid (joins_calls m A c o w Ae hE hr hm hl)
  have HE := Lib.hid hE
  have HI := Lib.hid hI
  clear hr hE hI
  go_enter Tryd.func27, Tryd.ntmps27
  go_wp2_with (fail)
  go_at_call 10
  refine HJ.out.mono ?_
  rintro e w1 ⟨hb1, hcase⟩
  have HB1 := Lib.hid hb1
  clear hb1
  rcases hcase with ⟨k, hk, rfl⟩ | ⟨h0, v, rfl, hv⟩
  · have HK := Lib.hid hk
    clear hk
    go_wp2
    go_ret2
    exact ⟨HB1.out, .inl ⟨k, HK.out, rfl⟩⟩
  · by_cases hbig : 4096 < m
    · have e0 := (HE.out.below HB1.out).cells 0 (by decide)
      simp only [GE, List.getD_cons_zero] at e0
      have H0 := Lib.hid h0
      clear h0 hv
      go_upto_region 5 with (fail)
      go_quiet (fail)
      go_wp2
      go_ret2
      exact ⟨pw_below_drewN HB1.out _, .inr (.inl ⟨H0.out, hbig, rfl⟩)⟩
    · obtain ⟨hm1, -, -, hok⟩ := ordE_ok h0
      obtain ⟨M, rfl⟩ : ∃ M : Nat, m = (M : Int) := ⟨m.toNat, by omega⟩
      rw [Int.toNat_natCast] at hv hok
      have HMem : Hid (∀ x ∈ joinL M (List.range M) (o.map Int.toNat), x.1 < x.2.1 ∧ x.2.1 < M) := Lib.hid (joinL_mem _ _ (Starts.range M) (by rw [List.length_range]; exact hok))
      have HLn : Hid ((joinL M (List.range M) (o.map Int.toNat)).length < M) := Lib.hid (by rw [joinL_length]; have := hok.1; omega)
      obtain ⟨L, HLd⟩ : ∃ L, Hid (joinL M (List.range M) (o.map Int.toNat) = L) := ⟨_, Lib.hid rfl⟩
      rw [HLd.out] at hv HMem HLn
      obtain ⟨B, d, rfl⟩ := Kd.R_slice hv
      have HV := Lib.hid (Kd.R_reads' hv).2.2
      have hcap := (Kd.R_reads' hv).2.1
      simp only [List.length_map] at HV hcap
      rw [List.length_map]
      have hM : M ≤ 4096 := by omega
      have hM1 : 1 ≤ M := by omega
      have hL4 : L.length < 4096 := by have := HLn.out; omega
      have H0 := Lib.hid h0
      clear h0 hv hok
      have hmk : ∀ W : World, (Instr.makeSlice 68 (.int .i64 (M : Int)) (.int .i64 (M : Int))).run Tryd.prog W = .ok (.slice (some ⟨W.heap.size, 0, none⟩) M M) (W.alloc (.cells (madeCells #[.string ⟨#[]⟩] M) 9)) := fun W =>
        print_make_of (P := Tryd.prog) 68 9 (.string ⟨#[]⟩) 16 Tryd.underlying68 infoStr rfl (by decide) M (by omega) W
      obtain ⟨w2, hw2⟩ : ∃ w2, w1.alloc (.cells (madeCells #[.string ⟨#[]⟩] M) 9) = w2 := ⟨_, rfl⟩
      have hb2 : Below w1.heap.size w1 w2 := by rw [← hw2]; exact below_alloc (Below.refl _ _) _
      have hrow2 : Row w2 w1.heap.size M (fun _ => .string ⟨#[]⟩) := by rw [← hw2]; exact Row.made w1 _ _ _
      have HB2 := Lib.hid hb2
      have HRow2 := Lib.hid hrow2
      clear hb2 hrow2
      go_wp2
      clear hw2 hmk
      go_loopw [27] (fun x wr => ∃ i : Nat, x = .int .i64 i ∧ i ≤ M ∧ Hid (∃ T : Nat → ByteArray, Row wr w1.heap.size M (fun q => .string (T q)) ∧ (∀ q, q < i → T q = decB q) ∧ Below w1.heap.size w1 wr)) (fun x _ => M - (intOf x).toNat)
      case atStart => exact ⟨0, rfl, by omega, Lib.hid ⟨_, HRow2.out, fun q h => by omega, HB2.out⟩⟩
      case round =>
        obtain ⟨i, rfl, hi, HS⟩ := hrel
        obtain ⟨T, k1, k2, k3⟩ := HS.out
        have HB3 := Lib.hid k3
        by_cases hlt : i < M
        · have HR3 := Lib.hid k1
          have HT3 := Lib.hid k2
          have HCl := Lib.hid (HI.out i (by omega) (by omega) wr (HB1.out.trans (k3.mono HB1.out.size)))
          clear k1 k2 k3
          go_wp2_with (fail)
          go_at_call 44
          refine HCl.out.mono ?_
          rintro e w4 ⟨rfl, hb4⟩
          have hr4 := HR3.out.below hb4
          have ci := hr4.cell i hlt
          have fi := hr4.free i
          have HR4 := Lib.hid hr4
          have HB4 := Lib.hid (HB3.out.trans (hb4.mono HB3.out.size))
          clear hr4 hb4
          go_wp2
          go_roundw
          case rel => exact ⟨i + 1, by go_num, by omega, Lib.hid ⟨fun q => if q = i then decB i else T q, (HR4.out.set i hlt _).ext (fun q _ => by show (if q = i then Value.string (decB i) else Value.string (T q)) = Value.string (if q = i then decB i else T q); split <;> rfl), fun q hq => by
            show (if q = i then decB i else T q) = decB q
            by_cases e : q = i
            · rw [if_pos e, e]
            · rw [if_neg e]; exact HT3.out q (by omega), HB4.out.setCell (Nat.le_refl _) _⟩⟩
          case measure => simp [intOf]; omega
        · obtain rfl : i = M := by omega
          have hdec : ∀ q, q < i → (decB q).size ≤ 4 := fun q hq => decDigits_len 3 q (by omega)
          have hsum : ∀ n, n ≤ i → sumS decB n ≤ 4 * n := by
            intro n
            induction n with
            | zero => intro _; simp [sumS]
            | succ n ih =>
              intro h
              rw [sumS]
              have := ih (by omega)
              have := hdec n (by omega)
              omega
          have HS0 : Hid (TSt w1 wr i L 0) := Lib.hid ⟨decB, k1.ext (fun q hq => by rw [k2 q hq]), by simp, by have := hsum i (Nat.le_refl _); omega, k3⟩
          clear k1 k2 k3 hdec hsum
          obtain ⟨wo, rfl⟩ : ∃ wo : World, wo = wr := ⟨_, rfl⟩
          go_wp2
          go_loopw [38] (fun x wr => ∃ j : Nat, x = .int .i64 j ∧ j ≤ L.length ∧ Hid (TSt w1 wr i L j)) (fun x _ => L.length - (intOf x).toNat)
          case atStart => exact ⟨0, rfl, by omega, HS0⟩
          case round =>
            obtain ⟨j, rfl, hj, HS⟩ := hrel
            obtain ⟨T, k1, k2, k3, k4⟩ := HS.out
            by_cases hlt : j < L.length
            · obtain ⟨⟨a, b, c3⟩, hLj⟩ : ∃ p, L[j] = p := ⟨_, rfl⟩
              have hab := HMem.out _ (List.getElem_mem hlt)
              rw [hLj] at hab
              have hab1 : a < b := hab.1
              have hab2 : b < i := hab.2
              obtain ⟨ad, x, y, z, rfl, hx, hy, hz, HX⟩ := at_K3 (by rw [List.length_map]; exact Kd.C_below HV.out k4) j (by rw [List.length_map]; exact hlt)
              obtain ⟨rfl, rfl, rfl⟩ : (x = (a : Int)) ∧ (y = (b : Int)) ∧ z = (c3 : Int) := by
                have h := HX.out
                rw [List.getD_eq_getElem?_getD, List.getElem?_map, List.getElem?_eq_getElem hlt, hLj] at h
                simp [tI] at h
                exact ⟨h.1.symm, h.2.1.symm, h.2.2.symm⟩
              have ca := k1.cell a (by omega)
              have cb := k1.cell b (by omega)
              have fa := k1.free a
              have fb := k1.free b
              have za := sumS_ge T i a (by omega)
              have zb := sumS_ge T i b (by omega)
              obtain ⟨ta, hta⟩ : ∃ t, T a = t := ⟨_, rfl⟩
              obtain ⟨tb, htb⟩ : ∃ t, T b = t := ⟨_, rfl⟩
              rw [hta] at ca za
              rw [htb] at cb zb
              have za2 : ta.size ≤ 40000 := by omega
              have zb2 : tb.size ≤ 40000 := by omega
              clear za zb
              have hg1 := k1.lt
              go_upto_region 15 with (fail)
              obtain ⟨w5, hw5⟩ : ∃ w5, wr.alloc (.cells #[.int .i64 (a : Int), .int .i64 (b : Int), .int .i64 (c3 : Int)] 29) = w5 := ⟨_, rfl⟩
              rw [hw5]
              have hb5 : Below wr.heap.size wr w5 := by rw [← hw5]; exact below_alloc (Below.refl _ _) _
              have q0 : w5.cell? ⟨wr.heap.size, 0, none⟩ = some (.int .i64 (a : Int)) := by rw [← hw5]; simp [go_sem]
              have q1 : w5.cell? ⟨wr.heap.size, 1, none⟩ = some (.int .i64 (b : Int)) := by rw [← hw5]; simp [go_sem]
              have da : w5.cell? ⟨w1.heap.size, a, none⟩ = some (.string ta) := (hb5.cell (p := ⟨w1.heap.size, a, none⟩) hg1).trans ca
              have db : w5.cell? ⟨w1.heap.size, b, none⟩ = some (.string tb) := (hb5.cell (p := ⟨w1.heap.size, b, none⟩) hg1).trans cb
              have ga : w5.frozen? ⟨w1.heap.size, a, none⟩ = false := (hb5.frozen (p := ⟨w1.heap.size, a, none⟩) hg1).trans fa
              have gb : w5.frozen? ⟨w1.heap.size, b, none⟩ = false := (hb5.frozen (p := ⟨w1.heap.size, b, none⟩) hg1).trans fb
              have HB5 := Lib.hid hb5
              have HK1 := Lib.hid k1
              have HK2 := Lib.hid k2
              have HK3 := Lib.hid k3
              have HK4 := Lib.hid k4
              have hab3 : a < i := by omega
              have hne : a ≠ b := by omega
              have HTa := Lib.hid hta
              have HTb := Lib.hid htb
              have HLj := Lib.hid hLj
              clear hw5 hb5 ca cb fa fb k1 k2 k3 k4 hta htb hx hy hz hLj
              go_region
              obtain ⟨w6, hw6⟩ : ∃ w6, (w5.setCell ⟨w1.heap.size, a, none⟩ (.string (pB ta tb))).drew = w6 := ⟨_, rfl⟩
              have hr6 : Row w6 w1.heap.size i (fun q => .string (if q = a then pB ta tb else T q)) := by
                rw [← hw6]
                exact (((HK1.out.below HB5.out).set a (by omega) _).below (Below.refl _ _).drew).ext (fun q _ => by split <;> rfl)
              have hb6 : Below w1.heap.size w1 w6 := by
                rw [← hw6]
                exact ((HK4.out.trans (HB5.out.mono HK4.out.size)).setCell (by exact Nat.le_refl _) _).drew
              have r1 : w6.cell? ⟨wr.heap.size, 1, none⟩ = some (.int .i64 (b : Int)) := by
                rw [← hw6]
                refine (World.cell?_setCell_other _ _ _ _ (by intro e; injection e with e; omega)).trans q1
              have cb := hr6.cell b (by omega)
              have fb := hr6.free b
              rw [if_neg (fun h => hne h.symm)] at cb
              have HR6 := Lib.hid hr6
              have HB6 := Lib.hid hb6
              rw [show (w5.setCell ⟨w1.heap.size, a, none⟩ (.string ((⟨#[40]⟩ : ByteArray) ++ ta ++ ⟨#[32]⟩ ++ tb ++ ⟨#[41]⟩))).drew = w6 from hw6]
              clear q0 q1 da db ga gb hw6 hr6 hb6
              go_wp2
              go_roundw
              case rel => exact ⟨j + 1, by go_num, by omega, Lib.hid ⟨fun q => if q = b then ⟨#[]⟩ else if q = a then pB (T a) (T b) else T q, by
                  refine (HR6.out.set b hab2 _).ext (fun q _ => ?_)
                  show (if q = b then Value.string ⟨#[]⟩ else Value.string (if q = a then pB ta tb else T q)) = Value.string (if q = b then ⟨#[]⟩ else if q = a then pB (T a) (T b) else T q)
                  rw [HTa.out, HTb.out]
                  split <;> rfl, by
                  rw [← HK2.out, List.drop_eq_getElem_cons hlt, HLj.out, txtF], by
                  rw [sumS_join (T := T) (n := i) (a := a) (b := b) (by omega) hab2 hne]
                  have := HK3.out; omega, HB6.out.setCell (by exact Nat.le_refl _) _⟩⟩
              case measure => simp [intOf]; omega
            · obtain rfl : j = L.length := by omega
              rw [List.drop_of_length_le (Nat.le_refl _), txtF] at k2
              have c0 := k1.cell 0 (by omega)
              have HK2 := Lib.hid k2
              have HK4 := Lib.hid k4
              clear k2 k4
              go_wp2
              go_ret2
              refine ⟨HB1.out.trans (HK4.out.mono HB1.out.size), .inr (.inr ⟨H0.out, by omega, ?_⟩)⟩
              rw [Int.toNat_natCast, HLd.out, ← HK2.out]
              rfl
end Go.Proofs.YtcikcnkhcfhomaaDoor.Hand
/- Chapter 22's awake: answers that the document names. -/
namespace Go.Proofs.YtcikcnkhcfhomaaDoor.Hand
open Go.RowKit Go.Proofs.YtcikcnkhcfhomaaDoorW.PrintWords Go.Proofs.YtcikcnkhcfhomaaDoorW.PrintMore Go.Proofs.YtcikcnkhcfhomaaDoor.Math

theorem add_off (b j : Nat) : (Addr.add ⟨b, 0, none⟩ j) = ⟨b, j, none⟩ := by
  unfold Addr.add
  split
  · rename_i h0; rw [h0]
  · simp
theorem C2_of {w : World} {b : Nat} {l : List (Int × Int)} (hm : l.length ≤ 1000) (h : ∀ j x, l[j]? = some x → w.cell? ⟨b, j * 2, none⟩ = some (.int .i64 x.1) ∧ w.cell? ⟨b, j * 2 + 1, none⟩ = some (.int .i64 x.2)) : K2.C w (some ⟨b, 0, none⟩) l.length l := by
  refine ⟨rfl, by have : maxLen = 9223372036854775807 := (by decide); omega, fun _ => ⟨_, rfl, fun j r hj => ?_⟩⟩
  obtain ⟨h1, h2⟩ := h j r hj
  refine ⟨[.int .i64 r.1, .int .i64 r.2], rfl, ⟨[.int .i64 r.1], [.int .i64 r.2], rfl, rfl, rfl⟩, fun i u hu => ?_⟩
  rw [show K2.sz = 2 from rfl, add_off]
  match i, hu with
  | 0, hu => simp at hu; subst hu; exact h1
  | 1, hu => simp at hu; subst hu; exact h2
  | i + 2, hu => simp at hu
theorem C3_of {w : World} {b : Nat} {l : List (Int × Int × Int)} (hm : l.length ≤ 1000) (h : ∀ j x, l[j]? = some x → w.cell? ⟨b, j * 3, none⟩ = some (.int .i64 x.1) ∧ w.cell? ⟨b, j * 3 + 1, none⟩ = some (.int .i64 x.2.1) ∧ w.cell? ⟨b, j * 3 + 2, none⟩ = some (.int .i64 x.2.2)) : K3.C w (some ⟨b, 0, none⟩) l.length l := by
  refine ⟨rfl, by have : maxLen = 9223372036854775807 := (by decide); omega, fun _ => ⟨_, rfl, fun j r hj => ?_⟩⟩
  obtain ⟨h1, h2, h3⟩ := h j r hj
  refine ⟨[.int .i64 r.1, .int .i64 r.2.1, .int .i64 r.2.2], rfl, ⟨[.int .i64 r.1], [.int .i64 r.2.1, .int .i64 r.2.2], rfl, rfl, [.int .i64 r.2.1], [.int .i64 r.2.2], rfl, rfl, rfl⟩, fun i u hu => ?_⟩
  rw [show K3.sz = 3 from rfl, add_off]
  match i, hu with
  | 0, hu => simp at hu; subst hu; exact h1
  | 1, hu => simp at hu; subst hu; exact h2
  | 2, hu => simp at hu; subst hu; exact h3
  | i + 3, hu => simp at hu
theorem litI (xs : List Int) (W : World) (hx : xs.length ≤ 1000) : Kd.C (Kd.int .i64) (W.alloc (.cells (xs.map (Value.int .i64)).toArray 3)) (some ⟨W.heap.size, 0, none⟩) xs.length xs := by
  have h := (Kd.R_reads' (R_lit (enc := Value.int .i64) (h1 := fun _ => rfl) 3 W.heap.size W xs (Nat.le_refl _) (by unfold maxLen; omega))).2.2
  exact h
theorem dec1 (n : Nat) (h : n < 10) : decB n = ⟨#[UInt8.ofNat (48 + n)]⟩ := by
  unfold decB
  rw [Lib.decDigits, dif_pos h]
theorem text4 : txtF [(1, 2, 3), (0, 1, 3), (0, 3, 4)] decB 0 = ⟨#[40, 40, 48, 32, 40, 49, 32, 50, 41, 41, 32, 51, 41]⟩ := by
  simp only [txtF]
  simp [pB, dec1]
  rfl
theorem two_lit (W W' : World) (b : Nat) (hb : W.heap.size = b) (hW : W' = W.alloc (.cells #[.int .i64 0, .int .i64 2, .int .i64 2, .int .i64 2, .int .i64 2, .int .i64 4, .int .i64 4, .int .i64 5] 44)) : K2.C W' (some ⟨b, 0, none⟩) 4 [(0, 2), (2, 2), (2, 4), (4, 5)] := by
  subst hb hW
  refine C2_of (by simp) (fun j x hj => ?_)
  match j, hj with
  | 0, hj => simp at hj; subst hj; simp [go_sem]
  | 1, hj => simp at hj; subst hj; simp [go_sem]
  | 2, hj => simp at hj; subst hj; simp [go_sem]
  | 3, hj => simp at hj; subst hj; simp [go_sem]
  | j + 4, hj => simp at hj
theorem three_lit (W W' : World) (b : Nat) (hb : W.heap.size = b) (hW : W' = W.alloc (.cells #[.int .i64 1, .int .i64 2, .int .i64 3, .int .i64 0, .int .i64 1, .int .i64 3, .int .i64 0, .int .i64 3, .int .i64 4] 29)) : K3.C W' (some ⟨b, 0, none⟩) 3 [(1, 2, 3), (0, 1, 3), (0, 3, 4)] := by
  subst hb hW
  refine C3_of (by simp) (fun j x hj => ?_)
  match j, hj with
  | 0, hj => simp at hj; subst hj; simp [go_sem]
  | 1, hj => simp at hj; subst hj; simp [go_sem]
  | 2, hj => simp at hj; subst hj; simp [go_sem]
  | j + 3, hj => simp at hj
theorem joins4 : ((joinL (4 : Int).toNat (List.range (4 : Int).toNat) (([1, 0, 0] : List Int).map Int.toNat))) = [(1, 2, 3), (0, 1, 3), (0, 3, 4)] := by decide
set_option maxHeartbeats 1000000 in
theorem awake_calls (w : World) (Ae : Nat → Addr) (hE : ErrsL [0, 7, 8] w Ae) : Calls Tryd.prog 11 #[] w fun e w' => e = .returned (.bool true) ∧ Below w.heap.size w w' := by
  have HC : Hid (∀ (W : World) (b : Nat), Below w.heap.size w W → W.heap.size = b → Calls Tryd.prog 21 #[.int .i64 5, .slice (some ⟨b, 0, none⟩) 3 3] (W.alloc (.cells #[.int .i64 2, .int .i64 2, .int .i64 4] 3)) fun e w' => ∃ B d, e = .returned (.tuple #[.slice B 4 d, .nilIface]) ∧ K2.C w' B 4 [(0, 2), (2, 2), (2, 4), (4, 5)] ∧ Below w.heap.size w w') := Lib.hid (fun W b hW hb => by
    subst hb
    have hb1 : Below w.heap.size w (W.alloc (.cells #[.int .i64 2, .int .i64 2, .int .i64 4] 3)) := below_alloc hW _
    refine (cut_calls 5 (some ⟨W.heap.size, 0, none⟩) 3 [2, 2, 4] _ Ae ((hE.sub (by decide)).below hb1) (litI [2, 2, 4] W (by decide)) (by decide)).mono ?_
    rintro e w' ⟨hb, ⟨k, hk, -⟩ | ⟨-, B, d, rfl, hR⟩⟩
    · rw [show cutE 5 [2, 2, 4] = 0 by decide] at hk; cases hk
    · exact ⟨B, d, rfl, hR, below_next hb1 hb⟩)
  have HJ : Hid (∀ (W : World) (b : Nat), Below w.heap.size w W → W.heap.size = b → Calls Tryd.prog 10 #[.int .i64 4, .slice (some ⟨b, 0, none⟩) 3 3] (W.alloc (.cells #[.int .i64 1, .int .i64 0, .int .i64 0] 3)) fun e w' => ∃ B d, e = .returned (.tuple #[.slice B 3 d, .nilIface]) ∧ K3.C w' B 3 [(1, 2, 3), (0, 1, 3), (0, 3, 4)] ∧ Below w.heap.size w w' ∧ Below W.heap.size W w') := Lib.hid (fun W b hW hb => by
    subst hb
    have hb0 : Below W.heap.size W (W.alloc (.cells #[.int .i64 1, .int .i64 0, .int .i64 0] 3)) := below_alloc (Below.refl _ _) _
    have hb1 := below_next hW hb0
    refine (joins_calls 4 (some ⟨W.heap.size, 0, none⟩) 3 [1, 0, 0] _ Ae ((hE.sub (by decide)).below hb1) (litI [1, 0, 0] W (by decide)) (by decide) (by decide)).mono ?_
    rintro e w' ⟨hb, ⟨k, hk, -⟩ | ⟨-, v, rfl, hR⟩⟩
    · rw [show ordE 4 [1, 0, 0] = 0 by decide] at hk; cases hk
    · rw [joins4] at hR
      obtain ⟨B, d, rfl⟩ := Kd.R_slice hR
      exact ⟨B, d, rfl, (Kd.R_reads' hR).2.2, below_next hb1 hb, below_next hb0 hb⟩)
  have HT : Hid (∀ (W : World) (b : Nat), Below w.heap.size w W → W.heap.size = b → Calls Tryd.prog 27 #[.int .i64 4, .slice (some ⟨b, 0, none⟩) 3 3] (W.alloc (.cells #[.int .i64 1, .int .i64 0, .int .i64 0] 3)) fun e w' => e = .returned (.tuple #[.string ⟨#[40, 40, 48, 32, 40, 49, 32, 50, 41, 41, 32, 51, 41]⟩, .nilIface]) ∧ Below w.heap.size w w' ∧ Below W.heap.size W w') := Lib.hid (fun W b hW hb => by
    subst hb
    have hb0 : Below W.heap.size W (W.alloc (.cells #[.int .i64 1, .int .i64 0, .int .i64 0] 3)) := below_alloc (Below.refl _ _) _
    have hb1 := below_next hW hb0
    refine (text_calls 4 (some ⟨W.heap.size, 0, none⟩) 3 [1, 0, 0] _ Ae ((hE.sub (by decide)).below hb1) (litI [1, 0, 0] W (by decide)) (by decide) (by decide) (fun i _ hi W2 _ => (Tryd.strconv_Itoa_small i (by omega) W2).mono (fun e w' h => ⟨h.1, by rw [h.2]; exact Below.refl _ _⟩))).mono ?_
    rintro e w' ⟨hb, ⟨k, hk, -⟩ | ⟨-, h4, -⟩ | ⟨-, -, rfl⟩⟩
    · rw [show ordE 4 [1, 0, 0] = 0 by decide] at hk; cases hk
    · omega
    · rw [joins4, text4]
      exact ⟨rfl, below_next hb1 hb, below_next hb0 hb⟩)
  go_enter Tryd.func11, Tryd.ntmps11
  go_wp2_with (fail)
  go_at_call 21
  refine (HC.out w _ (Below.refl _ _) rfl).mono ?_
  rintro e w2 ⟨B2, d2, rfl, hC2, hb2⟩
  have HC2 := Lib.hid hC2
  have HB2 := Lib.hid hb2
  clear hC2 hb2
  go_wp2_with (fail)
  go_at_call 10
  refine (HJ.out w2 _ HB2.out rfl).mono ?_
  rintro e w3 ⟨B3, d3, rfl, hC3, hb3, hb23⟩
  have HC3 := Lib.hid hC3
  have HB3 := Lib.hid hb3
  have HB23 := Lib.hid hb23
  clear hC3 hb3 hb23
  go_wp2_with (fail)
  go_at_call 27
  refine (HT.out w3 _ HB3.out rfl).mono ?_
  rintro e w4 ⟨rfl, hb4, hb34⟩
  have HB4 := Lib.hid hb4
  have HB34 := Lib.hid hb34
  clear hb4 hb34
  go_wp2_with (fail)
  have hc2 := two_lit w4 _ _ rfl rfl
  have hc2' := Kd.C_alloc (Kd.C_below (Kd.C_below HC2.out HB23.out) HB34.out) (.cells #[.int .i64 0, .int .i64 2, .int .i64 2, .int .i64 2, .int .i64 2, .int .i64 4, .int .i64 4, .int .i64 5] 44)
  go_at_call 24
  refine (twos_calls B2 _ d2 4 [(0, 2), (2, 2), (2, 4), (4, 5)] [(0, 2), (2, 2), (2, 4), (4, 5)] _ hc2' hc2).mono ?_
  rintro e w' ⟨rfl, n1, rfl⟩
  rw [decide_eq_true rfl]
  obtain ⟨w5, hw5⟩ : ∃ w5, (w4.alloc (.cells #[.int .i64 0, .int .i64 2, .int .i64 2, .int .i64 2, .int .i64 2, .int .i64 4, .int .i64 4, .int .i64 5] 44)).drewN n1 = w5 := ⟨_, rfl⟩
  have hb45 : Below w4.heap.size w4 w5 := by rw [← hw5]; exact pw_below_drewN (below_alloc (Below.refl _ _) _) _
  rw [hw5]
  have HB45 := Lib.hid hb45
  clear hc2 hc2' hw5 hb45
  go_wp2_with (fail)
  have hc3 := three_lit w5 _ _ rfl rfl
  have hc3' := Kd.C_alloc (Kd.C_below (Kd.C_below HC3.out HB34.out) HB45.out) (.cells #[.int .i64 1, .int .i64 2, .int .i64 3, .int .i64 0, .int .i64 1, .int .i64 3, .int .i64 0, .int .i64 3, .int .i64 4] 29)
  go_at_call 29
  refine (threes_calls B3 _ d3 3 [(1, 2, 3), (0, 1, 3), (0, 3, 4)] [(1, 2, 3), (0, 1, 3), (0, 3, 4)] _ hc3' hc3).mono ?_
  rintro e w' ⟨rfl, n2, rfl⟩
  rw [decide_eq_true rfl]
  clear hc3 hc3'
  go_wp2
  go_ret
  exact ⟨ret_bool (by simp), pw_below_drewN (below_alloc (below_next HB4.out HB45.out) _) _⟩
end Go.Proofs.YtcikcnkhcfhomaaDoor.Hand
/- Plain facts of the orders: Even's numbers, step by step and round by round. -/
namespace Go.Proofs.YtcikcnkhcfhomaaDoor.Math

/-- Even's numbers as the closure tells them: so many pieces left, the place at hand. -/
def evenS : Nat → Nat → Nat → List Int
  | 0, _, _ => []
  | n + 1, left, at_ => let a := if left ≤ at_ + 1 then 0 else at_; (a : Int) :: evenS n (left - 1) (a + 1)
/-- The document's rounds. -/
def evenR (m : Nat) : List Int :=
  if h : 1 < m then (List.range (m / 2)).map (fun i : Nat => (i : Int)) ++ evenR (m - m / 2) else []
termination_by m
decreasing_by omega
theorem even_in (M : Nat) : ∀ (d i n : Nat), i + d = M / 2 → evenS (d + n) (M - i) i = ((List.range d).map (fun j : Nat => ((i + j : Nat) : Int))) ++ evenS n (M - M / 2) (M / 2)
  | 0, i, n, h => by
    have : i = M / 2 := by omega
    subst this
    simp
  | d + 1, i, n, h => by
    rw [show d + 1 + n = (d + n) + 1 by omega, evenS]
    have h1 : ¬ (M - i ≤ i + 1) := by omega
    simp only [h1, if_false]
    rw [show M - i - 1 = M - (i + 1) by omega, even_in M d (i + 1) n (by omega), List.range_succ_eq_map]
    simp
    intro j _
    omega
theorem even_reset (n M : Nat) (h : M - M / 2 ≤ M / 2 + 1) : evenS n (M - M / 2) (M / 2) = evenS n (M - M / 2) 0 ∨ n = 0 := by
  cases n with
  | zero => exact .inr rfl
  | succ n =>
    left
    rw [evenS, evenS]
    simp only [h, if_true]
    by_cases h2 : M - M / 2 ≤ 0 + 1
    · simp only [h2, if_true]
    · simp only [h2, if_false]
theorem even_is : ∀ m : Nat, evenS (m - 1) m 0 = evenR m := fun m => by
  induction m using Nat.strongRecOn with
  | _ m ih =>
    rw [evenR]
    by_cases h : 1 < m
    · rw [dif_pos h]
      have h1 := even_in m (m / 2) 0 (m - m / 2 - 1) (by omega)
      rw [show m / 2 + (m - m / 2 - 1) = m - 1 by omega, Nat.sub_zero] at h1
      rw [h1]
      simp only [Nat.zero_add]
      congr 1
      rw [← ih (m - m / 2) (by omega)]
      rcases even_reset (m - m / 2 - 1) m (by omega) with h2 | h2
      · exact h2
      · rw [h2]; rfl
    · rw [dif_neg h, show m - 1 = 0 by omega]
      rfl
end Go.Proofs.YtcikcnkhcfhomaaDoor.Math
/- Contracts: plan.order over a closure: Left, Right, Even. (Under way.) -/
namespace Go.Proofs.YtcikcnkhcfhomaaDoor.Hand
open Go.RowKit Go.Proofs.YtcikcnkhcfhomaaDoorW.PrintWords Go.Proofs.YtcikcnkhcfhomaaDoorW.PrintMore Go.Proofs.YtcikcnkhcfhomaaDoor.Math

theorem left1_calls (k : Int) (w : World) : Quiet 39 #[.int .i64 k] w (.int .i64 0) := by
  unfold Quiet
  go_enter Tryd.func39, Tryd.ntmps39
  go_wp2
  go_ret
  exact ⟨rfl, 0, rfl⟩
theorem right1_calls (m : Int) (b k : Nat) (w : World) (hc : w.cell? ⟨b, 0, none⟩ = some (.int .i64 m)) (hm : 2 ≤ m ∧ m ≤ 65537) (hk : (k : Int) ≤ m - 2) : Quiet 40 #[.int .i64 k, .pointer (some ⟨b, 0, none⟩)] w (.int .i64 (m - 2 - k)) := by
  unfold Quiet
  go_enter Tryd.func40, Tryd.ntmps40
  go_wp2
  go_ret
  exact ⟨rfl, 0, rfl⟩
theorem infoIntO : (Tryd.prog.info? 3).map (fun i => (i.zero, i.size, i.bytes)) = some (some (.int .i64 0), 1, 8) := by kernel_rfl
set_option maxHeartbeats 1000000 in
theorem orderL_calls (m : Int) (w : World) : Calls Tryd.prog 38 #[.int .i64 m, .func (.func 39) #[] #[]] w fun e w' => ∃ v, e = .returned v ∧ (Kd.int .i64).R 3 w' w.heap.size (fun _ => True) v (if 2 ≤ m ∧ m ≤ 65537 then List.replicate (m - 1).toNat (0 : Int) else []) ∧ Below w.heap.size w w' := by
  by_cases h : 2 ≤ m ∧ m ≤ 65537
  · rw [if_pos h]
    obtain ⟨M, rfl⟩ : ∃ M : Nat, m = (M : Int) + 1 := ⟨(m - 1).toNat, by omega⟩
    go_enter Tryd.func38, Tryd.ntmps38
    go_upto_region 3 with (fail)
    have hmk : ∀ W : World, (Instr.makeSlice 22 (.int .i64 (M : Int)) (.int .i64 (M : Int))).run Tryd.prog W = .ok (.slice (some ⟨W.heap.size, 0, none⟩) M M) (W.alloc (.cells (madeCells #[.int .i64 0] M) 3)) := fun W =>
      print_make_of (P := Tryd.prog) 22 3 (.int .i64 0) 8 Tryd.underlying22 infoIntO rfl (by decide) M (by omega) W
    have hR0 : (Kd.int .i64).R 3 (w.alloc (.cells (madeCells #[.int .i64 0] M) 3)) w.heap.size (fun _ => True) (.slice (some ⟨w.heap.size, 0, none⟩) M M) (List.replicate M 0) := by
      have h := own_made_of' (enc := Value.int .i64) (d := (0 : Int)) w w.heap.size 3 M (Nat.le_refl _) (by omega)
      exact Kd.R_of_own (enc := Value.int .i64) (h1 := fun _ => rfl) h (fun _ _ => trivial)
    have HR0 := Lib.hid hR0
    have HB0 := Lib.hid (below_alloc (Below.refl w.heap.size w) (.cells (madeCells #[.int .i64 0] M) 3))
    clear hR0
    go_wp2
    clear hmk
    go_loopw [18] (fun x wr => ∃ j : Nat, x = .int .i64 j ∧ j ≤ M ∧ Hid ((Kd.int .i64).R 3 wr w.heap.size (fun _ => True) (.slice (some ⟨w.heap.size, 0, none⟩) M M) (List.replicate M 0)) ∧ Hid (Below w.heap.size w wr)) (fun x _ => M - (intOf x).toNat)
    case atStart => exact ⟨0, rfl, by omega, HR0, HB0⟩
    case round =>
      obtain ⟨j, rfl, hj, HR, HB⟩ := hrel
      by_cases hlt : j < M
      · go_wp2_with (fail)
        go_at_call 39
        refine (left1_calls _ _).mono ?_
        rintro e w' ⟨rfl, n, rfl⟩
        have hR1 := Kd.R_drewN HR.out n
        obtain ⟨hc, hf⟩ := Kd.R_celln (0 : Int) hR1 (j : Int) (by omega) (by omega)
        have hR2 := Kd.R_putn hR1 (j : Int) (0 : Int)
        rw [Int.toNat_natCast] at hc hf hR2
        rw [show (List.replicate M (0 : Int)).set j 0 = List.replicate M 0 by apply List.ext_getElem <;> simp [List.getElem_set]] at hR2
        have HR2 := Lib.hid hR2
        have HB2 := Lib.hid ((pw_below_drewN HB.out n).setCell (p := ⟨w.heap.size, j, none⟩) (Nat.le_refl _) (.int .i64 0))
        clear hR2 hR1
        go_wp2
        go_roundw
        case rel => exact ⟨j + 1, by go_num, by omega, HR2, HB2⟩
        case measure => simp [intOf]; omega
      · obtain rfl : j = M := by omega
        go_wp2
        go_ret
        exact ⟨_, rfl, by simpa using HR.out, HB.out⟩
  · rw [if_neg h]
    have hcase : m < 2 ∨ (¬ m < 2 ∧ 65537 < m) := by omega
    clear h
    rcases hcase with h2 | ⟨h2, h3⟩
    all_goals
      go_enter Tryd.func38, Tryd.ntmps38
      go_wp2
      go_ret
      exact ⟨_, rfl, Kd.R_nil _ _ _ _ _, Below.refl _ _⟩
theorem fill_next (f : Nat → Int) (M j : Nat) (h : j < M) : ((List.range j).map f ++ List.replicate (M - j) (0 : Int)).set j (f j) = (List.range (j + 1)).map f ++ List.replicate (M - (j + 1)) 0 := by
  rw [show M - j = (M - (j + 1)) + 1 by omega, List.replicate_succ, List.set_append_right _ _ (by simp)]
  simp [List.range_succ]
set_option maxHeartbeats 1000000 in
theorem orderR_calls (m : Int) (b : Nat) (w : World) (hc0 : w.cell? ⟨b, 0, none⟩ = some (.int .i64 m)) : Calls Tryd.prog 38 #[.int .i64 m, .func (.func 40) #[] #[.pointer (some ⟨b, 0, none⟩)]] w fun e w' => ∃ v, e = .returned v ∧ (Kd.int .i64).R 3 w' w.heap.size (fun _ => True) v (if 2 ≤ m ∧ m ≤ 65537 then (List.range (m - 1).toNat).map (fun j : Nat => m - 2 - (j : Int)) else []) ∧ Below w.heap.size w w' := by
  have HC0 := Lib.hid hc0
  clear hc0
  by_cases h : 2 ≤ m ∧ m ≤ 65537
  · rw [if_pos h]
    obtain ⟨M, rfl⟩ : ∃ M : Nat, m = (M : Int) + 1 := ⟨(m - 1).toNat, by omega⟩
    rw [show ((M : Int) + 1 - 1).toNat = M by omega]
    go_enter Tryd.func38, Tryd.ntmps38
    go_upto_region 3 with (fail)
    have hmk : ∀ W : World, (Instr.makeSlice 22 (.int .i64 (M : Int)) (.int .i64 (M : Int))).run Tryd.prog W = .ok (.slice (some ⟨W.heap.size, 0, none⟩) M M) (W.alloc (.cells (madeCells #[.int .i64 0] M) 3)) := fun W =>
      print_make_of (P := Tryd.prog) 22 3 (.int .i64 0) 8 Tryd.underlying22 infoIntO rfl (by decide) M (by omega) W
    have hR0 : (Kd.int .i64).R 3 (w.alloc (.cells (madeCells #[.int .i64 0] M) 3)) w.heap.size (fun _ => True) (.slice (some ⟨w.heap.size, 0, none⟩) M M) (List.replicate M 0) := by
      have h := own_made_of' (enc := Value.int .i64) (d := (0 : Int)) w w.heap.size 3 M (Nat.le_refl _) (by omega)
      exact Kd.R_of_own (enc := Value.int .i64) (h1 := fun _ => rfl) h (fun _ _ => trivial)
    have HR0 := Lib.hid hR0
    have HB0 := Lib.hid (below_alloc (Below.refl w.heap.size w) (.cells (madeCells #[.int .i64 0] M) 3))
    clear hR0
    go_wp2
    clear hmk
    go_loopw [18] (fun x wr => ∃ j : Nat, x = .int .i64 j ∧ j ≤ M ∧ Hid ((Kd.int .i64).R 3 wr w.heap.size (fun _ => True) (.slice (some ⟨w.heap.size, 0, none⟩) M M) ((List.range j).map (fun j : Nat => (M : Int) + 1 - 2 - (j : Int)) ++ List.replicate (M - j) 0)) ∧ Hid (Below w.heap.size w wr)) (fun x _ => M - (intOf x).toNat)
    case atStart => exact ⟨0, rfl, by omega, HR0, HB0⟩
    case round =>
      obtain ⟨j, rfl, hj, HR, HB⟩ := hrel
      by_cases hlt : j < M
      · have hcb := (HB.out.cell (p := ⟨b, 0, none⟩) (World.block_lt_of_cell? w _ HC0.out)).trans HC0.out
        have HCl := Lib.hid (right1_calls ((M : Int) + 1) b j wr hcb (by omega) (by omega))
        clear hcb
        go_wp2_with (fail)
        go_at_call 40
        refine HCl.out.mono ?_
        rintro e w' ⟨rfl, n, rfl⟩
        have hR1 := Kd.R_drewN HR.out n
        obtain ⟨hc, hf⟩ := Kd.R_celln (0 : Int) hR1 (j : Int) (by omega) (by omega)
        have hR2 := Kd.R_putn hR1 (j : Int) ((M : Int) + 1 - 2 - (j : Int))
        rw [Int.toNat_natCast] at hc hf hR2
        rw [fill_next (fun j : Nat => (M : Int) + 1 - 2 - (j : Int)) M j hlt] at hR2
        have HR2 := Lib.hid hR2
        have HB2 := Lib.hid ((pw_below_drewN HB.out n).setCell (p := ⟨w.heap.size, j, none⟩) (Nat.le_refl _) (.int .i64 ((M : Int) + 1 - 2 - (j : Int))))
        clear hR2 hR1
        go_wp2
        go_roundw
        case rel => exact ⟨j + 1, by go_num, by omega, HR2, HB2⟩
        case measure => simp [intOf]; omega
      · obtain rfl : j = M := by omega
        go_wp2
        go_ret
        exact ⟨_, rfl, by simpa using HR.out, HB.out⟩
  · rw [if_neg h]
    have hcase : m < 2 ∨ (¬ m < 2 ∧ 65537 < m) := by omega
    clear h
    rcases hcase with h2 | ⟨h2, h3⟩
    all_goals
      go_enter Tryd.func38, Tryd.ntmps38
      go_wp2
      go_ret
      exact ⟨_, rfl, Kd.R_nil _ _ _ _ _, Below.refl _ _⟩
end Go.Proofs.YtcikcnkhcfhomaaDoor.Hand
/- Contracts: plan.order over Even's closure. -/
namespace Go.Proofs.YtcikcnkhcfhomaaDoor.Hand
open Go.RowKit Go.Proofs.YtcikcnkhcfhomaaDoorW.PrintWords Go.Proofs.YtcikcnkhcfhomaaDoorW.PrintMore Go.Proofs.YtcikcnkhcfhomaaDoor.Math

/-- Even's two variables. -/
structure EvV (w : World) (ba bl a l : Nat) : Prop where
  ca : w.cell? ⟨ba, 0, none⟩ = some (.int .i64 (a : Nat))
  cl : w.cell? ⟨bl, 0, none⟩ = some (.int .i64 (l : Nat))
  fa : w.frozen? ⟨ba, 0, none⟩ = false
  fl : w.frozen? ⟨bl, 0, none⟩ = false
  ne : ba ≠ bl
theorem EvV.setA {w : World} {ba bl a l : Nat} (h : EvV w ba bl a l) (x : Nat) : EvV (w.setCell ⟨ba, 0, none⟩ (.int .i64 (x : Nat))) ba bl x l :=
  ⟨World.cell?_setCell_same _ _ _ h.ca, (World.cell?_setCell_other _ _ _ _ (by intro e; injection e with e; exact h.ne e)).trans h.cl, by rw [World.frozen?_setCell]; exact h.fa, by rw [World.frozen?_setCell]; exact h.fl, h.ne⟩
theorem EvV.setL {w : World} {ba bl a l : Nat} (h : EvV w ba bl a l) (x : Nat) : EvV (w.setCell ⟨bl, 0, none⟩ (.int .i64 (x : Nat))) ba bl a x :=
  ⟨(World.cell?_setCell_other _ _ _ _ (by intro e; injection e with e; exact h.ne e.symm)).trans h.ca, World.cell?_setCell_same _ _ _ h.cl, by rw [World.frozen?_setCell]; exact h.fa, by rw [World.frozen?_setCell]; exact h.fl, h.ne⟩
theorem EvV.move {w w' : World} {ba bl a l : Nat} (h : EvV w ba bl a l) (h1 : w'.heap[ba]? = w.heap[ba]?) (h2 : w'.heap[bl]? = w.heap[bl]?) : EvV w' ba bl a l :=
  ⟨(World.cell?_of_block (w := w) (a := ⟨ba, 0, none⟩) h1).trans h.ca, (World.cell?_of_block (w := w) (a := ⟨bl, 0, none⟩) h2).trans h.cl, (World.frozen?_of_block (w := w) (a := ⟨ba, 0, none⟩) h1).trans h.fa, (World.frozen?_of_block (w := w) (a := ⟨bl, 0, none⟩) h2).trans h.fl, h.ne⟩
set_option maxHeartbeats 1000000 in
theorem even1_calls (k : Int) (ba bl a l B : Nat) (w : World) (h : EvV w ba bl a l) (ha : a ≤ 100000) (hl : 1 ≤ l ∧ l ≤ 100000) (hB : B ≤ ba ∧ B ≤ bl) :
    Calls Tryd.prog 41 #[.int .i64 k, .pointer (some ⟨ba, 0, none⟩), .pointer (some ⟨bl, 0, none⟩)] w fun e w' => e = .returned (.int .i64 ((if l ≤ a + 1 then 0 else a : Nat) : Int)) ∧ EvV w' ba bl ((if l ≤ a + 1 then 0 else a) + 1) (l - 1) ∧ Below B w w' ∧ w'.heap.size = w.heap.size ∧ ∀ i, i ≠ ba → i ≠ bl → w'.heap[i]? = w.heap[i]? := by
  have HV := Lib.hid h
  have c0 := h.ca
  have c1 := h.cl
  have f0 := h.fa
  clear h
  have HBl0 := Lib.hid (Below.refl B w)
  have HSz0 : Hid (w.heap.size = w.heap.size ∧ ∀ i, i ≠ ba → i ≠ bl → w.heap[i]? = w.heap[i]?) := Lib.hid ⟨rfl, fun _ _ _ => rfl⟩
  have step : Hid (∀ (w1 : World) (g : Nat) (v : Value), g = ba ∨ g = bl → Below B w w1 → (w1.heap.size = w.heap.size ∧ ∀ i, i ≠ ba → i ≠ bl → w1.heap[i]? = w.heap[i]?) → Below B w (w1.setCell ⟨g, 0, none⟩ v) ∧ ((w1.setCell ⟨g, 0, none⟩ v).heap.size = w.heap.size ∧ ∀ i, i ≠ ba → i ≠ bl → (w1.setCell ⟨g, 0, none⟩ v).heap[i]? = w.heap[i]?)) := Lib.hid (fun w1 g v hg h1 h2 =>
    ⟨h1.setCell (by show B ≤ g; rcases hg with rfl | rfl <;> omega) _, by rw [World.size_setCell]; exact h2.1, fun i i1 i2 => (Below.heap_setCell _ _ _ i (by show i ≠ g; rcases hg with rfl | rfl <;> assumption)).trans (h2.2 i i1 i2)⟩)
  by_cases hr : l ≤ a + 1
  · rw [if_pos hr]
    have hrI : (l : Int) ≤ (a : Int) + 1 := by omega
    go_enter Tryd.func41, Tryd.ntmps41
    go_upto_region 3 with (fail)
    obtain ⟨w1, hw1⟩ : ∃ w1, w.setCell ⟨ba, 0, none⟩ (.int .i64 0) = w1 := ⟨_, rfl⟩
    rw [hw1]
    have h1 : EvV w1 ba bl 0 l := by rw [← hw1]; exact HV.out.setA 0
    have s1 := step.out w ba (.int .i64 0) (.inl rfl) HBl0.out HSz0.out
    rw [hw1] at s1
    have S1 := Lib.hid s1
    have d0 := h1.ca
    have g0 := h1.fa
    have HV1 := Lib.hid h1
    clear h1 hw1 c0 c1 f0 s1
    go_upto_region 4 with (fail)
    obtain ⟨w2, hw2⟩ : ∃ w2, w1.setCell ⟨ba, 0, none⟩ (.int .i64 1) = w2 := ⟨_, rfl⟩
    rw [hw2]
    have h1 : EvV w2 ba bl 1 l := by rw [← hw2]; exact HV1.out.setA 1
    have s1 := step.out w1 ba (.int .i64 1) (.inl rfl) S1.out.1 S1.out.2
    rw [hw2] at s1
    have S2 := Lib.hid s1
    have d1 := h1.cl
    have g1 := h1.fl
    have HV2 := Lib.hid h1
    clear h1 hw2 d0 g0 s1
    go_upto_region 5 with (fail)
    obtain ⟨w3, hw3⟩ : ∃ w3, w2.setCell ⟨bl, 0, none⟩ (.int .i64 ((l : Int) - 1)) = w3 := ⟨_, rfl⟩
    rw [hw3]
    have el : ((l : Int) - 1) = ((l - 1 : Nat) : Int) := by omega
    have h1 : EvV w3 ba bl 1 (l - 1) := by rw [← hw3, el]; exact HV2.out.setL (l - 1)
    have s1 := step.out w2 bl (.int .i64 ((l : Int) - 1)) (.inr rfl) S2.out.1 S2.out.2
    rw [hw3] at s1
    have S3 := Lib.hid s1
    have d0 := h1.ca
    have HV3 := Lib.hid h1
    clear h1 hw3 d1 g1 s1 el
    go_wp2
    go_ret
    exact ⟨rfl, HV3.out, S3.out.1, S3.out.2⟩
  · rw [if_neg hr]
    have hrI : ¬ (l : Int) ≤ (a : Int) + 1 := by omega
    go_enter Tryd.func41, Tryd.ntmps41
    go_upto_region 4 with (fail)
    obtain ⟨w2, hw2⟩ : ∃ w2, w.setCell ⟨ba, 0, none⟩ (.int .i64 ((a : Int) + 1)) = w2 := ⟨_, rfl⟩
    rw [hw2]
    have h1 : EvV w2 ba bl (a + 1) l := by rw [← hw2]; exact HV.out.setA (a + 1)
    have s1 := step.out w ba (.int .i64 ((a : Int) + 1)) (.inl rfl) HBl0.out HSz0.out
    rw [hw2] at s1
    have S2 := Lib.hid s1
    have d1 := h1.cl
    have g1 := h1.fl
    have HV2 := Lib.hid h1
    clear h1 hw2 c0 c1 f0 s1
    go_upto_region 5 with (fail)
    obtain ⟨w3, hw3⟩ : ∃ w3, w2.setCell ⟨bl, 0, none⟩ (.int .i64 ((l : Int) - 1)) = w3 := ⟨_, rfl⟩
    rw [hw3]
    have el : ((l : Int) - 1) = ((l - 1 : Nat) : Int) := by omega
    have h1 : EvV w3 ba bl (a + 1) (l - 1) := by rw [← hw3, el]; exact HV2.out.setL (l - 1)
    have s1 := step.out w2 bl (.int .i64 ((l : Int) - 1)) (.inr rfl) S2.out.1 S2.out.2
    rw [hw3] at s1
    have S3 := Lib.hid s1
    have d0 := h1.ca
    have HV3 := Lib.hid h1
    clear h1 hw3 d1 g1 s1 el
    go_wp2
    go_ret
    exact ⟨ret_int (by omega), HV3.out, S3.out.1, S3.out.2⟩
theorem evenS_length : ∀ n l a : Nat, (evenS n l a).length = n
  | 0, _, _ => rfl
  | n + 1, l, a => by
    rw [evenS]
    simp only [List.length_cons]
    rw [evenS_length n]
/-- The memory of order's loop over Even's closure. -/
structure EvSt (B : Nat) (w wr : World) (ba bl M m j : Nat) (v : Value) (done : List Int) (a l : Nat) : Prop where
  row : (Kd.int .i64).R 3 wr w.heap.size (fun _ => True) v (done ++ List.replicate (M - j) 0)
  ev : EvV wr ba bl a l
  len : done.length = j
  eq : done ++ evenS (M - j) l a = evenS M m 0
  a1 : a ≤ 70000
  l1 : l + j = m
  bel : Below B w wr
theorem EvSt.step {B : Nat} {w wr w1 : World} {ba bl M m j : Nat} {done : List Int} {a l : Nat} (h : EvSt B w wr ba bl M m j (.slice (some ⟨w.heap.size, 0, none⟩) M M) done a l) (hj : j < M) (hb : ba < w.heap.size ∧ bl < w.heap.size) (hB : B ≤ w.heap.size) (hm : m ≤ 65537 ∧ M < m)
    (h1 : EvV w1 ba bl ((if l ≤ a + 1 then 0 else a) + 1) (l - 1)) (h2 : Below B wr w1) (h3 : w1.heap.size = wr.heap.size ∧ ∀ i, i ≠ ba → i ≠ bl → w1.heap[i]? = wr.heap[i]?) :
    (w1.cell? ⟨w.heap.size, j, none⟩ = some (.int .i64 0) ∧ w1.frozen? ⟨w.heap.size, j, none⟩ = false) ∧ EvSt B w (w1.setCell ⟨w.heap.size, j, none⟩ (.int .i64 ((if l ≤ a + 1 then 0 else a : Nat) : Int))) ba bl M m (j + 1) (.slice (some ⟨w.heap.size, 0, none⟩) M M) (done ++ [((if l ≤ a + 1 then 0 else a : Nat) : Int)]) ((if l ≤ a + 1 then 0 else a) + 1) (l - 1) := by
  have hR : (Kd.int .i64).R 3 w1 w.heap.size (fun _ => True) (.slice (some ⟨w.heap.size, 0, none⟩) M M) (done ++ List.replicate (M - j) 0) :=
    Kd.R_mono (Kd.R_step (Kd.R_bound h.row) (fun k hk hlt => h3.2 k (by have := hk.2.1; omega) (by have := hk.2.1; omega))) (fun _ _ => trivial)
  obtain ⟨hc, hf⟩ := Kd.R_celln (0 : Int) hR (j : Int) (by omega) (by simp [h.len]; omega)
  rw [Int.toNat_natCast] at hc hf
  have hR2 := Kd.R_putn hR (j : Int) ((if l ≤ a + 1 then 0 else a : Nat) : Int)
  rw [Int.toNat_natCast] at hR2
  have hset : (done ++ List.replicate (M - j) (0 : Int)).set j ((if l ≤ a + 1 then 0 else a : Nat) : Int) = (done ++ [((if l ≤ a + 1 then 0 else a : Nat) : Int)]) ++ List.replicate (M - (j + 1)) 0 := by
    rw [show M - j = (M - (j + 1)) + 1 by omega, List.replicate_succ, List.set_append_right _ _ (by rw [h.len]; exact Nat.le_refl _), h.len]
    simp
  rw [hset] at hR2
  have hval : rdOf (0 : Int) (done ++ List.replicate (M - j) (0 : Int)) (j : Int) = 0 := by
    unfold rdOf
    rw [Int.toNat_natCast, List.getD_eq_getElem?_getD, List.getElem?_append_right (by rw [h.len]; exact Nat.le_refl _), h.len, Nat.sub_self]
    rw [show M - j = (M - (j + 1)) + 1 by omega, List.replicate_succ]
    rfl
  rw [hval] at hc
  refine ⟨⟨hc, hf⟩, hR2, ?_, by simp [h.len], ?_, ?_, ?_, ?_⟩
  · have hne : ∀ q, q < w.heap.size → (w1.setCell ⟨w.heap.size, j, none⟩ (.int .i64 ((if l ≤ a + 1 then 0 else a : Nat) : Int))).heap[q]? = w1.heap[q]? := fun q hq => Below.heap_setCell _ _ _ q (by show q ≠ w.heap.size; omega)
    exact h1.move (hne ba hb.1) (hne bl hb.2)
  · rw [← h.eq, show M - j = (M - (j + 1)) + 1 by omega, evenS, List.append_assoc]
    rfl
  · have := h.l1; have := h.a1
    split <;> omega
  · have := h.l1; omega
  · exact (h.bel.trans h2).setCell hB _
set_option maxHeartbeats 1000000 in
theorem orderE_calls (m ba bl B : Nat) (w : World) (hv : EvV w ba bl 0 m) (hb : ba < w.heap.size ∧ bl < w.heap.size) (hB : B ≤ ba ∧ B ≤ bl) (hm : 2 ≤ m ∧ m ≤ 65537) : Calls Tryd.prog 38 #[.int .i64 m, .func (.func 41) #[] #[.pointer (some ⟨ba, 0, none⟩), .pointer (some ⟨bl, 0, none⟩)]] w fun e w' => ∃ v, e = .returned v ∧ (Kd.int .i64).R 3 w' w.heap.size (fun _ => True) v (evenS (m - 1) m 0) ∧ Below B w w' := by
  obtain ⟨M, rfl⟩ : ∃ M : Nat, m = M + 1 := ⟨m - 1, by omega⟩
  have HV := Lib.hid hv
  have HBB := Lib.hid hB
  have HBb := Lib.hid hb
  clear hv hB
  have e1 : ((M + 1 : Nat) : Int) = (M : Int) + 1 := by omega
  rw [e1]
  clear e1
  go_enter Tryd.func38, Tryd.ntmps38
  go_upto_region 3 with (fail)
  have hmk : ∀ W : World, (Instr.makeSlice 22 (.int .i64 (M : Int)) (.int .i64 (M : Int))).run Tryd.prog W = .ok (.slice (some ⟨W.heap.size, 0, none⟩) M M) (W.alloc (.cells (madeCells #[.int .i64 0] M) 3)) := fun W =>
    print_make_of (P := Tryd.prog) 22 3 (.int .i64 0) 8 Tryd.underlying22 infoIntO rfl (by decide) M (by omega) W
  have hR0 : (Kd.int .i64).R 3 (w.alloc (.cells (madeCells #[.int .i64 0] M) 3)) w.heap.size (fun _ => True) (.slice (some ⟨w.heap.size, 0, none⟩) M M) (List.replicate M 0) := by
    have h := own_made_of' (enc := Value.int .i64) (d := (0 : Int)) w w.heap.size 3 M (Nat.le_refl _) (by omega)
    exact Kd.R_of_own (enc := Value.int .i64) (h1 := fun _ => rfl) h (fun _ _ => trivial)
  have hE0 : EvSt B w (w.alloc (.cells (madeCells #[.int .i64 0] M) 3)) ba bl M (M + 1) 0 (.slice (some ⟨w.heap.size, 0, none⟩) M M) [] 0 (M + 1) :=
    ⟨by simpa using hR0, HV.out.move (heap_alloc_old w _ HBb.out.1) (heap_alloc_old w _ HBb.out.2), rfl, rfl, by omega, rfl, (Below.refl B w).alloc (by have := HBB.out; omega) _⟩
  have HE0 := Lib.hid hE0
  clear hR0 hE0 hb
  go_wp2
  clear hmk
  go_loopw [18] (fun x wr => ∃ (j : Nat) (done : List Int) (a l : Nat), x = .int .i64 j ∧ j ≤ M ∧ Hid (EvSt B w wr ba bl M (M + 1) j (.slice (some ⟨w.heap.size, 0, none⟩) M M) done a l)) (fun x _ => M - (intOf x).toNat)
  case atStart => exact ⟨0, [], _, _, rfl, by omega, HE0⟩
  case round =>
    obtain ⟨j, done, a, l, rfl, hj, HS⟩ := hrel
    by_cases hlt : j < M
    · have HCl := Lib.hid (even1_calls (j : Int) ba bl a l B wr HS.out.ev (by have := HS.out.a1; omega) (by have := HS.out.l1; omega) HBB.out)
      go_wp2_with (fail)
      go_at_call 41
      refine HCl.out.mono ?_
      rintro e w1 ⟨rfl, h1, h2, h3, h4⟩
      obtain ⟨⟨hc, hf⟩, hN⟩ := HS.out.step hlt HBb.out (by have := HBB.out; have := HBb.out; omega) (by omega) h1 h2 ⟨h3, h4⟩
      have HN := Lib.hid hN
      obtain ⟨x, hx⟩ : ∃ x : Nat, (if l ≤ a + 1 then 0 else a) = x := ⟨_, rfl⟩
      rw [hx] at HN ⊢
      clear h1 h2 h3 h4 hN hx
      go_wp2
      go_roundw
      case rel => exact ⟨j + 1, _, _, _, by go_num, by omega, HN⟩
      case measure => simp [intOf]; omega
    · obtain rfl : j = M := by omega
      go_wp2
      go_ret
      refine ⟨_, rfl, ?_, HS.out.bel⟩
      have h1 := HS.out.row
      have h2 := HS.out.eq
      rw [Nat.sub_self] at h1 h2
      rw [Nat.add_sub_cancel, ← h2]
      simpa [evenS] using h1
/-- Left, Right, Even: their numbers. -/
def ordN (m : Int) (f : Nat → List Int) : List Int := if 2 ≤ m ∧ m ≤ 65537 then f m.toNat else []
def leftN (m : Nat) : List Int := List.replicate (m - 1) 0
def rightN (m : Nat) : List Int := (List.range (m - 1)).map (fun j : Nat => (m : Int) - 2 - (j : Int))
theorem left_calls (m : Int) (w : World) : Calls Tryd.prog 12 #[.int .i64 m] w fun e w' => ∃ v, e = .returned v ∧ (Kd.int .i64).R 3 w' w.heap.size (fun _ => True) v (ordN m leftN) ∧ Below w.heap.size w w' := by
  have HO := Lib.hid (orderL_calls m w)
  have HN : Hid ((if 2 ≤ m ∧ m ≤ 65537 then List.replicate (m - 1).toNat (0 : Int) else []) = ordN m leftN) := Lib.hid (by
    unfold ordN leftN
    split
    · rw [show (m - 1).toNat = m.toNat - 1 by omega]
    · rfl)
  rw [HN.out] at HO
  go_enter Tryd.func12, Tryd.ntmps12
  go_wp2_with (fail)
  go_at_call 38
  refine HO.out.mono ?_
  rintro e w1 ⟨v, rfl, hr, hb⟩
  have HR := Lib.hid hr
  have HB := Lib.hid hb
  clear hr hb
  go_wp2
  go_ret
  exact ⟨v, rfl, HR.out, HB.out⟩
theorem right_calls (m : Int) (w : World) : Calls Tryd.prog 13 #[.int .i64 m] w fun e w' => ∃ v, e = .returned v ∧ (Kd.int .i64).R 3 w' w.heap.size (fun _ => True) v (ordN m rightN) ∧ Below w.heap.size w w' := by
  have HN : Hid ((if 2 ≤ m ∧ m ≤ 65537 then (List.range (m - 1).toNat).map (fun j : Nat => m - 2 - (j : Int)) else []) = ordN m rightN) := Lib.hid (by
    unfold ordN rightN
    split
    · rw [show (m - 1).toNat = m.toNat - 1 by omega, show ((m.toNat : Nat) : Int) = m by omega]
    · rfl)
  have HO : Hid (Calls Tryd.prog 38 #[.int .i64 m, .func (.func 40) #[] #[.pointer (some ⟨w.heap.size, 0, none⟩)]] (w.alloc (.cells #[.int .i64 m] 3)) fun e w' => ∃ v, e = .returned v ∧ (Kd.int .i64).R 3 w' w.heap.size (fun _ => True) v (ordN m rightN) ∧ Below w.heap.size w w') := Lib.hid ((orderR_calls m w.heap.size (w.alloc (.cells #[.int .i64 m] 3)) (by simp [go_sem])).mono (by
    rintro e w' ⟨v, rfl, hr, hb⟩
    rw [HN.out] at hr
    have hb0 := below_alloc (Below.refl w.heap.size w) (.cells #[.int .i64 m] 3)
    exact ⟨v, rfl, Kd.R_lower hr (by simp), below_next hb0 hb⟩))
  go_enter Tryd.func13, Tryd.ntmps13
  go_wp2_with (fail)
  go_at_call 38
  refine HO.out.mono ?_
  rintro e w1 ⟨v, rfl, hr, hb⟩
  have HR := Lib.hid hr
  have HB := Lib.hid hb
  clear hr hb
  go_wp2
  go_ret
  exact ⟨v, rfl, HR.out, HB.out⟩
theorem order_no (m : Int) (F : Value) (h : ¬ (2 ≤ m ∧ m ≤ 65537)) (w : World) : Calls Tryd.prog 38 #[.int .i64 m, F] w fun e w' => e = .returned (.slice none 0 0) ∧ w' = w := by
  have hcase : m < 2 ∨ (¬ m < 2 ∧ 65537 < m) := by omega
  clear h
  rcases hcase with h2 | ⟨h2, h3⟩
  all_goals
    go_enter Tryd.func38, Tryd.ntmps38
    go_wp2
    go_ret
    exact ⟨rfl, rfl⟩
theorem even_calls (m : Int) (w : World) : Calls Tryd.prog 14 #[.int .i64 m] w fun e w' => ∃ v, e = .returned v ∧ (Kd.int .i64).R 3 w' w.heap.size (fun _ => True) v (ordN m evenR) ∧ Below w.heap.size w w' := by
  have HO : Hid (Calls Tryd.prog 38 #[.int .i64 m, .func (.func 41) #[] #[.pointer (some ⟨w.heap.size + 1, 0, none⟩), .pointer (some ⟨w.heap.size, 0, none⟩)]] ((w.alloc (.cells #[.int .i64 m] 3)).alloc (.cells #[.int .i64 0] 3)) fun e w' => ∃ v, e = .returned v ∧ (Kd.int .i64).R 3 w' w.heap.size (fun _ => True) v (ordN m evenR) ∧ Below w.heap.size w w') := Lib.hid (by
    obtain ⟨w2, hw2⟩ : ∃ w2, ((w.alloc (.cells #[.int .i64 m] 3)).alloc (.cells #[.int .i64 0] 3)) = w2 := ⟨_, rfl⟩
    have hb2 : Below w.heap.size w w2 := by rw [← hw2]; exact below_alloc (below_alloc (Below.refl _ _) _) _
    by_cases hm : 2 ≤ m ∧ m ≤ 65537
    · obtain ⟨M, rfl⟩ : ∃ M : Nat, m = (M : Int) := ⟨m.toNat, by omega⟩
      have hv : EvV w2 (w.heap.size + 1) w.heap.size 0 M := by
        rw [← hw2]
        exact ⟨by simp [go_sem], by simp [go_sem], by simp [go_sem], by simp [go_sem], by omega⟩
      have hsz : w2.heap.size = w.heap.size + 2 := by rw [← hw2]; simp
      rw [hw2]
      refine (orderE_calls M (w.heap.size + 1) w.heap.size w.heap.size w2 hv (by omega) (by omega) (by omega)).mono ?_
      rintro e w' ⟨v, rfl, hr, hb⟩
      refine ⟨v, rfl, ?_, hb2.trans hb⟩
      unfold ordN
      rw [if_pos hm, Int.toNat_natCast, ← even_is]
      exact Kd.R_lower hr (by omega)
    · rw [hw2]
      refine (order_no m _ hm w2).mono ?_
      rintro e w' ⟨rfl, rfl⟩
      refine ⟨_, rfl, ?_, hb2⟩
      unfold ordN
      rw [if_neg hm]
      exact Kd.R_nil _ _ _ _ _)
  go_enter Tryd.func14, Tryd.ntmps14
  go_wp2_with (fail)
  go_at_call 38
  refine HO.out.mono ?_
  rintro e w1 ⟨v, rfl, hr, hb⟩
  have HR := Lib.hid hr
  have HB := Lib.hid hb
  clear hr hb
  go_wp2
  go_ret
  exact ⟨v, rfl, HR.out, HB.out⟩
end Go.Proofs.YtcikcnkhcfhomaaDoor.Hand
/- Contracts: the document's Left, Right, Even. -/
namespace Go.Proofs.YtcikcnkhcfhomaaDoor.Hand
open Go.RowKit Go.Proofs.YtcikcnkhcfhomaaDoorW.PrintWords Go.Proofs.YtcikcnkhcfhomaaDoorW.PrintMore Go.Proofs.YtcikcnkhcfhomaaDoor.Math

/-- A list that was made since: its memory. -/
structure MkI (w0 w : World) (v : Value) (xs : List Int) : Prop where
  own : (Kd.int .i64).R 3 w w0.heap.size (fun _ => True) v xs
  bel : Below w0.heap.size w0 w
theorem take_map_range (f : Nat → Int) (M : Nat) {j : Nat} (h : j ≤ M) : ((List.range M).map f).take j = (List.range j).map f := by
  rw [← List.map_take]
  congr 1
  apply List.ext_getElem
  · simp; omega
  · intro i h1 h2
    simp
set_option maxHeartbeats 1000000 in
theorem refLeft_calls (m : Int) (w : World) (hm : -9223372036854775808 ≤ m ∧ m ≤ 9223372036854775807) : Calls Tryd.prog 15 #[.int .i64 m] w fun e w' => ∃ v, e = .returned v ∧ (Kd.int .i64).R 3 w' w.heap.size (fun _ => True) v (ordN m leftN) ∧ Below w.heap.size w w' := by
  have HM0 : Hid (MkI w w (.slice none 0 0) []) := Lib.hid ⟨Kd.R_nil _ _ _ _ _, Below.refl _ _⟩
  by_cases h : 2 ≤ m ∧ m ≤ 65537
  · obtain ⟨M, rfl⟩ : ∃ M : Nat, m = (M : Int) + 1 := ⟨(m - 1).toNat, by omega⟩
    have HN : Hid (ordN ((M : Int) + 1) leftN = (List.range M).map (fun j : Nat => (0 : Int))) := Lib.hid (by
      unfold ordN leftN
      rw [if_pos h, show ((M : Int) + 1).toNat = M + 1 by omega, Nat.add_sub_cancel]
      first | rfl | (apply List.ext_getElem <;> simp))
    have h1 : (1 : Int) < (M : Int) + 1 := by omega
    have h2 : (M : Int) + 1 ≤ 65537 := by omega
    go_enter Tryd.func15, Tryd.ntmps15
    go_wp2
    go_loopw [3, 4] (fun uu x wr => ∃ (j : Nat) (u : Value), x = .int .i64 j ∧ j ≤ M ∧ u = uu ∧ Hid (MkI w wr u ((List.range j).map (fun j : Nat => (0 : Int))))) (fun _ x _ => M - (intOf x).toNat)
    case atStart => exact ⟨0, _, rfl, by omega, rfl, HM0⟩
    case round =>
      obtain ⟨j, u, rfl, hj, rfl, HS⟩ := hrel
      by_cases hlt : j < M
      · go_wp2_with ((with_reducible refine gate_builtin (b := .append) (xs := #[.tmp 19, .tmp 20]) rfl ?_); at_builtin; go_loud (refine Kd.R_append (Kd.int .i64) (w0 := w) w.heap.size rfl (.tmp 19) (.tmp 20) 22 3 (.int .i64 0) 8 rfl Tryd.underlying22 infoIntO rfl (by decide) (by omega) u ((List.range j).map (fun j : Nat => (0 : Int))) ((0 : Int)) [.int .i64 ((0 : Int))] (fun _ => True) (fun _ => False) rfl rfl rfl (fun _ hk => hk.elim) (fun _ _ => trivial) HS.out.own HS.out.bel HS.out.bel.size (by simp; omega) ?_); intro v1 w1 ho hb hg hat; (have H1 : Hid (MkI w w1 v1 ((List.range (j + 1)).map (fun j : Nat => (0 : Int)))) := Lib.hid ⟨by rw [List.range_succ, List.map_append]; exact ho, hb⟩; clear ho hb hg hat))
        go_roundw
        case rel => exact ⟨j + 1, _, by go_num, by omega, rfl, H1⟩
        case measure => simp [intOf]; omega
      · obtain rfl : j = M := by omega
        go_wp2
        go_ret
        exact ⟨_, rfl, by rw [HN.out]; exact HS.out.own, HS.out.bel⟩
  · have HN : Hid (ordN m leftN = []) := Lib.hid (by unfold ordN; rw [if_neg h])
    have hcase : ¬ 1 < m ∨ (1 < m ∧ ¬ m ≤ 65537) := by omega
    clear h
    rcases hcase with h1 | ⟨h1, h2⟩
    all_goals
      go_enter Tryd.func15, Tryd.ntmps15
      go_wp2
      refine wp_loop_rounds 1 ?_
      rw [rounds_succ]
      go_wp2
      go_ret
      exact ⟨_, rfl, by rw [HN.out]; exact Kd.R_nil _ _ _ _ _, HM0.out.bel⟩
set_option maxHeartbeats 1000000 in
theorem refRight_calls (m : Int) (w : World) (hm : -9223372036854775808 ≤ m ∧ m ≤ 9223372036854775807) : Calls Tryd.prog 16 #[.int .i64 m] w fun e w' => ∃ v, e = .returned v ∧ (Kd.int .i64).R 3 w' w.heap.size (fun _ => True) v (ordN m rightN) ∧ Below w.heap.size w w' := by
  have HM0 : Hid (MkI w w (.slice none 0 0) []) := Lib.hid ⟨Kd.R_nil _ _ _ _ _, Below.refl _ _⟩
  by_cases h : 2 ≤ m ∧ m ≤ 65537
  · obtain ⟨M, rfl⟩ : ∃ M : Nat, m = (M : Int) + 1 := ⟨(m - 1).toNat, by omega⟩
    have HN : Hid (ordN ((M : Int) + 1) rightN = (List.range M).map (fun j : Nat => ((M : Int) + 1 - 2 - (j : Int)))) := Lib.hid (by
      unfold ordN rightN
      rw [if_pos h, show ((M : Int) + 1).toNat = M + 1 by omega, Nat.add_sub_cancel]
      first | rfl | (apply List.ext_getElem <;> simp))
    have h1 : (1 : Int) < (M : Int) + 1 := by omega
    have h2 : (M : Int) + 1 ≤ 65537 := by omega
    go_enter Tryd.func16, Tryd.ntmps16
    go_wp2
    go_loopw [3, 4] (fun uu x wr => ∃ (j : Nat) (u : Value), x = .int .i64 j ∧ j ≤ M ∧ u = uu ∧ Hid (MkI w wr u ((List.range j).map (fun j : Nat => ((M : Int) + 1 - 2 - (j : Int)))))) (fun _ x _ => M - (intOf x).toNat)
    case atStart => exact ⟨0, _, rfl, by omega, rfl, HM0⟩
    case round =>
      obtain ⟨j, u, rfl, hj, rfl, HS⟩ := hrel
      by_cases hlt : j < M
      · go_wp2_with ((with_reducible refine gate_builtin (b := .append) (xs := #[.tmp 19, .tmp 24]) rfl ?_); at_builtin; go_loud (refine Kd.R_append (Kd.int .i64) (w0 := w) w.heap.size rfl (.tmp 19) (.tmp 24) 22 3 (.int .i64 0) 8 rfl Tryd.underlying22 infoIntO rfl (by decide) (by omega) u ((List.range j).map (fun j : Nat => ((M : Int) + 1 - 2 - (j : Int)))) (((M : Int) + 1 - 2 - (j : Int))) [.int .i64 (((M : Int) + 1 - 2 - (j : Int)))] (fun _ => True) (fun _ => False) rfl rfl rfl (fun _ hk => hk.elim) (fun _ _ => trivial) HS.out.own HS.out.bel HS.out.bel.size (by simp; omega) ?_); intro v1 w1 ho hb hg hat; (have H1 : Hid (MkI w w1 v1 ((List.range (j + 1)).map (fun j : Nat => ((M : Int) + 1 - 2 - (j : Int))))) := Lib.hid ⟨by rw [List.range_succ, List.map_append]; exact ho, hb⟩; clear ho hb hg hat))
        go_roundw
        case rel => exact ⟨j + 1, _, by go_num, by omega, rfl, H1⟩
        case measure => simp [intOf]; omega
      · obtain rfl : j = M := by omega
        go_wp2
        go_ret
        exact ⟨_, rfl, by rw [HN.out]; exact HS.out.own, HS.out.bel⟩
  · have HN : Hid (ordN m rightN = []) := Lib.hid (by unfold ordN; rw [if_neg h])
    have hcase : ¬ 1 < m ∨ (1 < m ∧ ¬ m ≤ 65537) := by omega
    clear h
    rcases hcase with h1 | ⟨h1, h2⟩
    all_goals
      go_enter Tryd.func16, Tryd.ntmps16
      go_wp2
      refine wp_loop_rounds 1 ?_
      rw [rounds_succ]
      go_wp2
      go_ret
      exact ⟨_, rfl, by rw [HN.out]; exact Kd.R_nil _ _ _ _ _, HM0.out.bel⟩
theorem evenR_small {m : Nat} (h : m ≤ 1) : evenR m = [] := by rw [evenR, dif_neg (by omega)]
theorem evenR_more {m : Nat} (h : 1 < m) : evenR m = (List.range (m / 2)).map (fun i : Nat => (i : Int)) ++ evenR (m - m / 2) := by rw [evenR, dif_pos h]
set_option maxHeartbeats 1000000 in
theorem refEven_calls (m : Int) (w : World) (hm : -9223372036854775808 ≤ m ∧ m ≤ 9223372036854775807) : Calls Tryd.prog 17 #[.int .i64 m] w fun e w' => ∃ v, e = .returned v ∧ (Kd.int .i64).R 3 w' w.heap.size (fun _ => True) v (ordN m evenR) ∧ Below w.heap.size w w' := by
  have HM0 : Hid (MkI w w (.slice none 0 0) []) := Lib.hid ⟨Kd.R_nil _ _ _ _ _, Below.refl _ _⟩
  by_cases hbig : 65537 < m
  · have HN : Hid (ordN m evenR = []) := Lib.hid (by unfold ordN; rw [if_neg (by omega)])
    go_enter Tryd.func17, Tryd.ntmps17
    go_wp2
    go_ret
    exact ⟨_, rfl, by rw [HN.out]; exact Kd.R_nil _ _ _ _ _, HM0.out.bel⟩
  · by_cases h : 1 < m
    · obtain ⟨M, rfl⟩ : ∃ M : Nat, m = (M : Int) := ⟨m.toNat, by omega⟩
      have HN : Hid (ordN (M : Int) evenR = evenR M) := Lib.hid (by unfold ordN; rw [if_pos (by omega), Int.toNat_natCast])
      go_enter Tryd.func17, Tryd.ntmps17
      go_wp2
      go_loopw [0, 3] (fun x uu wr => ∃ (q : Nat) (u : Value), x = .int .i64 q ∧ 0 < q ∧ q ≤ M ∧ u = uu ∧ Hid (∃ done, MkI w wr u done ∧ done ++ evenR q = evenR M ∧ done.length + q ≤ M)) (fun x _ _ => (intOf x).toNat)
      case atStart => exact ⟨M, _, rfl, by omega, by omega, rfl, Lib.hid ⟨[], HM0.out, rfl, by simp⟩⟩
      case round =>
        obtain ⟨q, u, rfl, hq0, hq, rfl, HS⟩ := hrel
        obtain ⟨done, k1, k2, k3⟩ := HS.out
        have HK1 := Lib.hid k1
        have HK2 := Lib.hid k2
        clear k1 k2
        by_cases hlt : 1 < q
        · have hd1 : decide ((1 : Int) < (q : Int)) = true := decide_eq_true (by omega)
          obtain ⟨hf, hhf⟩ : ∃ h : Nat, q / 2 = h := ⟨_, rfl⟩
          have hfI : (q : Int) / 2 = (hf : Int) := by omega
          have hf1 : 0 < hf ∧ hf < q := by omega
          have HMo : Hid (evenR q = (List.range hf).map (fun i : Nat => (i : Int)) ++ evenR (q - hf)) := Lib.hid (by rw [evenR_more hlt, hhf])
          have HI0 : Hid (MkI w wr u (done ++ (List.range 0).map (fun i : Nat => (i : Int)))) := Lib.hid (by simpa using HK1.out)
          obtain ⟨wo, rfl⟩ : ∃ wo : World, wo = wr := ⟨_, rfl⟩
          clear hhf
          go_wp2
          go_loopw [3, 4] (fun vv x wr => ∃ (j : Nat) (v : Value), x = .int .i64 j ∧ j ≤ hf ∧ v = vv ∧ Hid (MkI w wr v (done ++ (List.range j).map (fun i : Nat => (i : Int))))) (fun _ x _ => hf - (intOf x).toNat)
          case atStart => exact ⟨0, _, rfl, by omega, rfl, HI0⟩
          case round =>
            obtain ⟨j, v, rfl, hj, rfl, HI⟩ := hrel
            by_cases hl2 : j < hf
            · go_wp2_with ((with_reducible refine gate_builtin (b := .append) (xs := #[.tmp 16, .tmp 18]) rfl ?_); at_builtin; go_loud (refine Kd.R_append (Kd.int .i64) (w0 := w) w.heap.size rfl (.tmp 16) (.tmp 18) 22 3 (.int .i64 0) 8 rfl Tryd.underlying22 infoIntO rfl (by decide) (by omega) v (done ++ (List.range j).map (fun i : Nat => (i : Int))) ((j : Int)) [.int .i64 (j : Int)] (fun _ => True) (fun _ => False) rfl rfl rfl (fun _ hk => hk.elim) (fun _ _ => trivial) HI.out.own HI.out.bel HI.out.bel.size (by simp; omega) ?_); intro v1 w1 ho hb hg hat; (have H1 : Hid (MkI w w1 v1 (done ++ (List.range (j + 1)).map (fun i : Nat => (i : Int)))) := Lib.hid ⟨by rw [List.range_succ, List.map_append, ← List.append_assoc]; exact ho, hb⟩; clear ho hb hg hat))
              go_roundw
              case rel => exact ⟨j + 1, _, by go_num, by omega, rfl, H1⟩
              case measure => simp [intOf]; omega
            · obtain rfl : j = hf := by omega
              go_wp2
              go_roundw
              case rel => exact ⟨q - j, _, by go_num, by omega, by omega, rfl, Lib.hid ⟨_, HI.out, by rw [List.append_assoc, ← HMo.out]; exact HK2.out, by simp; omega⟩⟩
              case measure => simp [intOf]; omega
        · go_wp2
          go_ret
          refine ⟨_, rfl, ?_, HK1.out.bel⟩
          have e := HK2.out
          rw [evenR_small (by omega), List.append_nil] at e
          rw [HN.out, ← e]
          exact HK1.out.own
    · have HN : Hid (ordN m evenR = []) := Lib.hid (by unfold ordN; rw [if_neg (by omega)])
      go_enter Tryd.func17, Tryd.ntmps17
      go_wp2
      refine wp_loop_rounds 1 ?_
      rw [rounds_succ]
      go_wp2
      go_ret
      exact ⟨_, rfl, by rw [HN.out]; exact Kd.R_nil _ _ _ _ _, HM0.out.bel⟩
end Go.Proofs.YtcikcnkhcfhomaaDoor.Hand
/- A slice's head; lists by their elements. -/
namespace Go.Proofs.YtcikcnkhcfhomaaDoor.Hand
open Go.RowKit Go.Proofs.YtcikcnkhcfhomaaDoorW.PrintWords Go.Proofs.YtcikcnkhcfhomaaDoorW.PrintMore Go.Proofs.YtcikcnkhcfhomaaDoor.Math

theorem list_of {α : Type} {p : Nat → α → Prop} : ∀ {n : Nat} (_ : ∀ i, i < n → ∃ x, p i x), ∃ l : List α, l.length = n ∧ ∀ i x, l[i]? = some x → p i x
  | 0, _ => ⟨[], rfl, fun i x h => by simp at h⟩
  | n + 1, h => by
    obtain ⟨l, hl, hp⟩ := list_of (n := n) (fun i hi => h i (by omega))
    obtain ⟨x, hx⟩ := h n (by omega)
    refine ⟨l ++ [x], by simp [hl], fun i y hy => ?_⟩
    rcases Nat.lt_or_ge i l.length with hi | hi
    · rw [List.getElem?_append_left hi] at hy; exact hp i y hy
    · rw [List.getElem?_append_right hi] at hy
      have h0 : i - l.length = 0 := by
        rcases Nat.eq_zero_or_pos (i - l.length) with h | h
        · exact h
        · rw [List.getElem?_eq_none (by simp; omega)] at hy; cases hy
      rw [h0] at hy
      simp at hy
      subst hy
      have : i = n := by omega
      subst this
      exact hx
/-- A slice's head: where, how many, room. -/
structure Hd where
  ad : Option Addr
  n : Nat
  c : Nat
def Hd.v (h : Hd) : Value := .slice h.ad h.n h.c
end Go.Proofs.YtcikcnkhcfhomaaDoor.Hand
/- Slices by their heads: what is there up to the room, what is read; what one append does to them. -/
namespace Go.Proofs.YtcikcnkhcfhomaaDoor.Hand
open Go.RowKit Go.Proofs.YtcikcnkhcfhomaaDoorW.PrintWords Go.Proofs.YtcikcnkhcfhomaaDoorW.PrintMore Go.Proofs.YtcikcnkhcfhomaaDoor.Math

/-- Rows of slices, by their heads. -/
def KH : Kd Hd := Kd.scalar Hd.v (fun _ => rfl)
def hd0 : Hd := ⟨none, 0, 0⟩
def Hd.blk (h : Hd) : Option Nat := h.ad.map (·.block)
/-- What may change: the blocks of S, and what is new. -/
structure Chg (S : Nat → Prop) (w w' : World) : Prop where
  os : w'.os = w.os
  tape : w'.tape = w.tape
  output : w'.output = w.output
  size : w.heap.size ≤ w'.heap.size
  block : ∀ k, k < w.heap.size → ¬ S k → w'.heap[k]? = w.heap[k]?
section
variable {S S' : Nat → Prop} {w w1 w2 : World}
theorem Chg.refl (S : Nat → Prop) (w : World) : Chg S w w := ⟨rfl, rfl, rfl, Nat.le_refl _, fun _ _ _ => rfl⟩
theorem Chg.trans (h : Chg S w w1) (k : Chg S w1 w2) : Chg S w w2 := ⟨k.os.trans h.os, k.tape.trans h.tape, k.output.trans h.output, Nat.le_trans h.size k.size, fun i hi hs => (k.block i (Nat.lt_of_lt_of_le hi h.size) hs).trans (h.block i hi hs)⟩
theorem Chg.of_below (S : Nat → Prop) (h : Below w.heap.size w w1) : Chg S w w1 := ⟨h.os, h.tape, h.output, h.size, fun k hk _ => h.block k hk⟩
theorem Chg.mono (h : Chg S w w1) (hs : ∀ k, k < w.heap.size → S k → S' k) : Chg S' w w1 := ⟨h.os, h.tape, h.output, h.size, fun k hk hn => h.block k hk (fun q => hn (hs k hk q))⟩
theorem Chg.of_grown {row : Option Nat} (h : w.grownBy w1 row) : Chg (fun k => row = some k) w w1 := ⟨h.os, h.tape, h.output, h.size, fun k hk hn => h.block k hk (fun e => hn e.symm)⟩
theorem Chg.below {B : Nat} (h : Chg S w w1) (hB : B ≤ w.heap.size) (hs : ∀ k, k < B → ¬ S k) : Below B w w1 := ⟨h.os, h.tape, h.output, h.size, fun k hk => h.block k (Nat.lt_of_lt_of_le hk hB) (hs k hk)⟩
theorem Chg.set (w : World) (p : Addr) (v : Value) : Chg (fun k => k = p.block) w (w.setCell p v) := ⟨rfl, rfl, rfl, by rw [World.size_setCell]; exact Nat.le_refl _, fun k _ hk => Below.heap_setCell w p v k hk⟩
/-- The same, where the later step's blocks are new or of S. -/
theorem Chg.next (h : Chg S w w1) (k : Chg S' w1 w2) (hs : ∀ i, i < w.heap.size → S' i → S i) : Chg S w w2 := ⟨k.os.trans h.os, k.tape.trans h.tape, k.output.trans h.output, Nat.le_trans h.size k.size, fun i hi hn => (k.block i (Nat.lt_of_lt_of_le hi h.size) (fun q => hn (hs i hi q))).trans (h.block i hi hn)⟩
theorem blk_add (ad : Addr) (k : Nat) : (ad.add k).block = ad.block := by unfold Addr.add; split <;> rfl
theorem C_blk {α : Type} {enc : α → Value} {h1 : ∀ x, (enc x).oneCell' = true} {A : Option Addr} {n : Nat} {l : List α} (h : (Kd.scalar enc h1).C w A n l) (hk : ∀ ad, A = some ad → w1.heap[ad.block]? = w.heap[ad.block]?) : (Kd.scalar enc h1).C w1 A n l := by
  obtain ⟨e1, e2, e3⟩ := h
  refine ⟨e1, e2, fun hn => ?_⟩
  obtain ⟨ad, ha, hc⟩ := e3 hn
  refine ⟨ad, ha, fun j p hj => ?_⟩
  obtain ⟨cs, q1, q2, q3⟩ := hc j p hj
  refine ⟨cs, q1, q2, fun i u hu => ?_⟩
  exact (World.cell?_of_block (w := w) (w' := w1) (by rw [blk_add]; exact hk ad ha)).trans (q3 i u hu)
end
/-- A slice's cells are there up to its room, and may be written. -/
def HdOk (w : World) (h : Hd) : Prop :=
  (h.ad = none ∧ h.n = 0 ∧ h.c = 0) ∨ ∃ g o, h.ad = some ⟨g, o, none⟩ ∧ h.n ≤ h.c ∧ h.c ≤ maxLen ∧ g < w.heap.size ∧ (∀ j, j < h.c → (w.cell? ⟨g, o + j, none⟩).isSome = true) ∧ ∀ j, w.frozen? ⟨g, j, none⟩ = false
/-- What its first n cells are. -/
def HdRead (w : World) (h : Hd) (n : Nat) (f : Nat → Value) : Prop := ∀ g o, h.ad = some ⟨g, o, none⟩ → ∀ k, k < n → w.cell? ⟨g, o + k, none⟩ = some (f k)
theorem isSome_set {w : World} {p q : Addr} {v : Value} (h : (w.cell? q).isSome = true) : ((w.setCell p v).cell? q).isSome = true := by
  by_cases e : p = q
  · subst e
    obtain ⟨x, hx⟩ := Option.isSome_iff_exists.1 h
    rw [World.cell?_setCell_same w p v hx]; rfl
  · rw [World.cell?_setCell_other w p q v e]; exact h
theorem HdOk.set {w : World} {h : Hd} (hh : HdOk w h) (p : Addr) (v : Value) : HdOk (w.setCell p v) h := by
  rcases hh with hh | ⟨g, o, h1, h2, h3, h4, h5, h6⟩
  · exact .inl hh
  · exact .inr ⟨g, o, h1, h2, h3, by rw [World.size_setCell]; exact h4, fun j hj => isSome_set (h5 j hj), fun j => by rw [World.frozen?_setCell]; exact h6 j⟩
theorem HdOk.blk_lt {w : World} {h : Hd} (hh : HdOk w h) {g : Nat} (hg : h.blk = some g) : g < w.heap.size := by
  unfold Hd.blk at hg
  rcases hh with ⟨h1, _⟩ | ⟨g', o, h1, h2, h3, h4, h5⟩
  · rw [h1] at hg; cases hg
  · rw [h1] at hg
    simp at hg
    omega
theorem HdOk.keep {w w1 : World} {h : Hd} (hh : HdOk w h) (hs : w.heap.size ≤ w1.heap.size) (hk : ∀ g, h.blk = some g → w1.heap[g]? = w.heap[g]?) : HdOk w1 h := by
  rcases hh with hh | ⟨g, o, h1, h2, h3, h4, h5, h6⟩
  · exact .inl hh
  · have e := hk g (by unfold Hd.blk; rw [h1]; rfl)
    exact .inr ⟨g, o, h1, h2, h3, by omega, fun j hj => by rw [World.cell?_of_block (a := ⟨g, o + j, none⟩) e]; exact h5 j hj, fun j => by rw [World.frozen?_of_block (a := ⟨g, j, none⟩) e]; exact h6 j⟩
theorem HdRead.keep {w w1 : World} {h : Hd} {n : Nat} {f : Nat → Value} (hh : HdRead w h n f) (hk : ∀ g, h.blk = some g → w1.heap[g]? = w.heap[g]?) : HdRead w1 h n f := by
  intro g o hg k hlt
  rw [World.cell?_of_block (a := ⟨g, o + k, none⟩) (hk g (by unfold Hd.blk; rw [hg]; rfl))]
  exact hh g o hg k hlt
theorem HdRead.mono {w : World} {h : Hd} {n m : Nat} {f : Nat → Value} (hh : HdRead w h n f) (hm : m ≤ n) : HdRead w h m f := fun g o hg k hlt => hh g o hg k (by omega)
theorem HdRead.ext {w : World} {h : Hd} {n : Nat} {f f' : Nat → Value} (hh : HdRead w h n f) (hm : ∀ k, k < n → f k = f' k) : HdRead w h n f' := fun g o hg k hlt => by rw [← hm k hlt]; exact hh g o hg k hlt
theorem HdOk.drewN {w : World} {h : Hd} (hh : HdOk w h) (n : Nat) : HdOk (w.drewN n) h := hh.keep (by simp [World.drewN]) (fun g _ => rfl)
/-- What one append leaves. -/
structure AppRel (W : World) (l : Hd) (x : Value) (l1 : Hd) (w1 : World) : Prop where
  n : l1.n = l.n + 1
  ok : HdOk w1 l1
  rd : ∀ f, HdRead W l l.n f → HdRead w1 l1 (l.n + 1) (fun k => if k < l.n then f k else x)
  chg : Chg (fun k => l.blk = some k) W w1
  old : ∀ h, HdOk W h → HdOk w1 h
  own : (l1.ad = l.ad ∧ ∀ h m f, HdOk W h → h.blk ≠ l.blk ∨ (h.ad = l.ad ∧ m ≤ l.n) → HdRead W h m f → HdRead w1 h m f) ∨ ((∃ g, l1.blk = some g ∧ W.heap.size ≤ g) ∧ ∀ k, k < W.heap.size → w1.heap[k]? = W.heap[k]?)
  some : l1.ad ≠ none
theorem AppRel.reads {W : World} {l : Hd} {x : Value} {l1 : Hd} {w1 : World} (h : AppRel W l x l1 w1) {h2 : Hd} {m : Nat} {f : Nat → Value} (h0 : HdOk W h2) (hne : h2.blk ≠ l.blk ∨ (h2.ad = l.ad ∧ m ≤ l.n)) (hr : HdRead W h2 m f) : HdRead w1 h2 m f := by
  rcases h.own with ⟨_, q⟩ | ⟨_, q⟩
  · exact q h2 m f h0 hne hr
  · exact hr.keep (fun g hg => q g (h0.blk_lt hg))
theorem news_one (W : World) (x : Value) (E : TypeId) : ∀ j u, [x][j]? = some u → (W.alloc (.cells #[x] E)).cell? ((⟨W.heap.size, 0, none⟩ : Addr).add j) = some u := by
  intro j u hu
  have h0 : j = 0 := by
    have := (List.getElem?_eq_some_iff.1 hu).1
    simp at this
    exact this
  subst h0
  simp at hu
  subst hu
  simp [Addr.add, go_sem]
theorem own_hd {w : World} {base : Nat} {E : TypeId} {v : Value} {n : Nat} {xs : List Value} (h : w.ownsRow base E 1 v n xs) (hn : 0 < n) : ∃ h1 : Hd, v = h1.v ∧ h1.n = n ∧ HdOk w h1 ∧ (∃ g, h1.blk = some g ∧ base ≤ g) ∧ ∀ k u, xs[k]? = some u → ∀ g o, h1.ad = some ⟨g, o, none⟩ → w.cell? ⟨g, o + k, none⟩ = some u := by
  obtain ⟨h1, h2⟩ := h
  rcases h2 with ⟨_, h2⟩ | ⟨g, cap, cur, rfl, hb, hg, hn', hc, hs, ht⟩
  · omega
  · refine ⟨⟨some ⟨g, 0, none⟩, n, cap⟩, rfl, rfl, .inr ⟨g, 0, rfl, hn', hc, (Array.getElem?_eq_some_iff.1 hg).1, fun j hj => ?_, fun j => ?_⟩, ⟨g, rfl, hb⟩, fun k u hu g' o' e => ?_⟩
    · have hj' : j < cap := hj; rw [Nat.zero_add, cell_of_row w g j cur E (0, 0) hg, Array.getElem?_eq_getElem (by omega)]; rfl
    · simp [World.frozen?, hg]
    · injection e with e
      injection e with e1 e2
      subst e1 e2
      rw [Nat.zero_add, cell_of_row w g k cur E (0, 0) hg]
      rw [← ht, List.getElem?_take] at hu
      split at hu
      · simpa using hu
      · cases hu
section
variable {ops : Array Oper} {rest : List Oper} {o : Oper} {a : Act} {Q : Exit → Act → World → Prop}
theorem wp_app {W : World} (hgd : o.guard = none) (s x : Operand) (t E : TypeId) (z : Value) (bytes : Nat) (ho : o.op = .call { callee := .builtin .append, args := #[s, x], argTypes := #[t, t] })
    (ht : Tryd.prog.underlying t = some (.slice E)) (hinfo : (Tryd.prog.info? E).map (fun i => (i.zero, i.size, i.bytes)) = some (some z, 1, bytes)) (hz : z.cells.size = 1) (hb0 : 0 < bytes)
    (l : Hd) (xv : Value) (hs : a.eval s = l.v) (hx : a.eval x = .slice (some ⟨W.heap.size, 0, none⟩) 1 1) (h1 : xv.oneCell' = true) (HO : HdOk W l) (hl : (l.n + 1) * bytes ≤ 140737488355328)
    (K : ∀ l1 w1, AppRel W l xv l1 w1 → wpList Tryd.prog ops Q rest (a.put o.dst l1.v) w1) : wpList Tryd.prog ops Q (o :: rest) a (W.alloc (.cells #[xv] E)) := by
  obtain ⟨i0, hi, hzz⟩ := Option.map_eq_some_iff.1 hinfo
  simp only [Prod.mk.injEq] at hzz
  obtain ⟨hz0, hz1, hz2⟩ := hzz
  have hlen : l.n + 1 ≤ 140737488355328 := Nat.le_trans (Nat.le_mul_of_pos_right _ hb0) hl
  have hmx : l.n + 1 ≤ maxLen := by simp only [maxLen]; omega
  have hold : ∀ k, k < W.heap.size → (W.alloc (.cells #[xv] E)).heap[k]? = W.heap[k]? := fun k hk => heap_alloc_old W (.cells #[xv] E) hk
  have hsz : (W.alloc (.cells #[xv] E)).heap.size = W.heap.size + 1 := World.size_alloc _ _
  have grow : ∀ (olds : List Value), olds.length = l.n → (∀ g o', l.ad = some ⟨g, o', none⟩ → ∀ j u, olds[j]? = some u → W.cell? ⟨g, o' + j, none⟩ = some u) → ∀ v' w', w'.ownsRow (W.alloc (.cells #[xv] E)).heap.size E 1 v' (l.n + 1) (olds ++ [xv]) → (W.alloc (.cells #[xv] E)).grownBy w' none → wpList Tryd.prog ops Q rest (a.put o.dst v') w' := by
    intro olds hol hor v' w' hown hg
    obtain ⟨l1, rfl, e1, e2, ⟨g, e3, e3'⟩, e4⟩ := own_hd hown (by omega)
    have hall : ∀ k, k < W.heap.size → w'.heap[k]? = W.heap[k]? := fun k hk => (hg.block k (by omega) (by simp)).trans (hold k hk)
    have hss : W.heap.size ≤ w'.heap.size := by have := hg.size; omega
    refine K l1 w' ⟨e1, e2, fun f hf g o' hgo k hk => ?_, ⟨by rw [hg.os]; rfl, by rw [hg.tape]; rfl, by rw [hg.output]; rfl, hss, fun k hk _ => hall k hk⟩, fun h hh => hh.keep hss (fun g hg => hall g (hh.blk_lt hg)), .inr ⟨⟨g, e3, by omega⟩, hall⟩, fun e => by unfold Hd.blk at e3; rw [e] at e3; cases e3⟩
    show w'.cell? ⟨g, o' + k, none⟩ = some (if k < l.n then f k else xv)
    by_cases hk2 : k < l.n
    · rw [if_pos hk2]
      have hlt : k < olds.length := by omega
      have q := e4 k olds[k] (by rw [List.getElem?_append_left hlt, List.getElem?_eq_getElem hlt]) g o' hgo
      rw [q]
      rcases HO with ⟨_, h0, _⟩ | ⟨g2, o2, a1, _⟩
      · omega
      · have q2 := hor g2 o2 a1 k olds[k] (List.getElem?_eq_getElem hlt)
        rw [hf g2 o2 a1 k hk2] at q2
        exact q2.symm
    · rw [if_neg hk2]
      obtain rfl : k = l.n := by omega
      exact e4 l.n xv (by rw [List.getElem?_append_right (by omega), hol]; simp) g o' hgo
  rcases HO with ⟨h0, h2, h3⟩ | ⟨g, o', h0, h2, h3, h4, h5, h6⟩
  · refine wpList_append_grows (P := Tryd.prog) _ hgd s x t ho E i0 z 1 bytes ht hi hz0 hz1 hz2 hz (by decide) l.ad l.n l.c [] hs (fun _ => ⟨h2, h3⟩) (by simp [h2]) (fun b _ j u hj => by simp at hj) ⟨W.heap.size, 0, none⟩ 1 1 [xv] hx rfl (news_one W xv E) (by simpa using h1) (by omega) hmx hl ?_
    exact grow [] (by simp [h2]) (fun g o' e => by rw [h0] at e; cases e)
  · obtain ⟨olds, hol, hor⟩ : ∃ olds : List Value, olds.length = l.n ∧ ∀ j u, olds[j]? = some u → W.cell? ⟨g, o' + j, none⟩ = some u := by
      obtain ⟨ol, q1, q2⟩ := list_of (n := l.n) (p := fun i y => W.cell? ⟨g, o' + i, none⟩ = some y) (fun i hi => Option.isSome_iff_exists.1 (h5 i (by omega)))
      exact ⟨ol, q1, q2⟩
    have hcell : ∀ p : Addr, p.block < W.heap.size → (W.alloc (.cells #[xv] E)).cell? p = W.cell? p := fun p hp => World.cell?_of_block (hold p.block hp)
    refine wpList_append_arg (P := Tryd.prog) _ hgd s x t ho E i0 z 1 bytes ht hi hz0 hz1 hz2 hz (by decide) g o' l.n l.c olds (by rw [hs]; unfold Hd.v; rw [h0]) (by simp [hol]) (fun j u hj => (hcell _ h4).trans (hor j u hj)) ⟨W.heap.size, 0, none⟩ 1 1 [xv] hx rfl (news_one W xv E) (by simpa using h1) (fun hr j hj => ?_) hmx hl (fun hr => ?_) (fun _ => ?_)
    · have hj0 : j = 0 := by simp at hj; exact hj
      subst hj0
      rw [Nat.mul_one, Nat.add_zero, hcell _ h4]
      exact ⟨h5 l.n (by omega), by rw [World.frozen?_of_block (w := W) (a := ⟨g, o' + l.n, none⟩) (hold g h4)]; exact h6 _⟩
    · have e : (W.alloc (.cells #[xv] E)).setCells g (o' + l.n * 1) [xv] = (W.alloc (.cells #[xv] E)).setCell ⟨g, o' + l.n, none⟩ xv := by rw [Nat.mul_one]; rfl
      rw [e]
      have hne : ∀ k, k < W.heap.size → k ≠ g → ((W.alloc (.cells #[xv] E)).setCell ⟨g, o' + l.n, none⟩ xv).heap[k]? = W.heap[k]? := fun k hk hkg => (Below.heap_setCell _ ⟨g, o' + l.n, none⟩ xv k hkg).trans (hold k hk)
      have hal : ∀ h, HdOk W h → HdOk (W.alloc (.cells #[xv] E)) h := fun h hh => hh.keep (by omega) (fun g hg => hold g (hh.blk_lt hg))
      have hss : W.heap.size ≤ ((W.alloc (.cells #[xv] E)).setCell ⟨g, o' + l.n, none⟩ xv).heap.size := by rw [World.size_setCell]; omega
      have hrd : ∀ h m f, HdOk W h → h.blk ≠ l.blk ∨ (h.ad = l.ad ∧ m ≤ l.n) → HdRead W h m f → HdRead ((W.alloc (.cells #[xv] E)).setCell ⟨g, o' + l.n, none⟩ xv) h m f := by
        intro h m f hh hne2 hr2 g2 o2 hg2 k hk
        have hlt2 : g2 < W.heap.size := hh.blk_lt (by unfold Hd.blk; rw [hg2]; rfl)
        rw [World.cell?_setCell_other _ _ _ _ ?_, hcell _ hlt2]
        · exact hr2 g2 o2 hg2 k hk
        · intro e
          injection e with e1 e2
          subst e1
          rcases hne2 with hne2 | ⟨q1, q2⟩
          · exact hne2 (by unfold Hd.blk; rw [hg2, h0]; rfl)
          · rw [hg2, h0] at q1
            injection q1 with q1
            injection q1 with _ q1
            omega
      have hok : HdOk (W.alloc (.cells #[xv] E)) ⟨l.ad, l.n + 1, l.c⟩ := .inr ⟨g, o', h0, hr, h3, by omega, fun j hj => by rw [hcell _ h4]; exact h5 j hj, fun j => by rw [World.frozen?_of_block (w := W) (a := ⟨g, j, none⟩) (hold g h4)]; exact h6 j⟩
      rw [← h0]
      refine K ⟨l.ad, l.n + 1, l.c⟩ _ ⟨rfl, hok.set _ _, fun f hf g2 o2 hgo k hk => ?_, ⟨rfl, rfl, rfl, hss, fun k hk hn => hne k hk (fun e => hn (by unfold Hd.blk; rw [h0, e]; rfl))⟩, fun h hh => (hal h hh).set _ _, .inl ⟨rfl, hrd⟩, fun e => by rw [h0] at e; cases e⟩
      have hgo' : l.ad = some ⟨g2, o2, none⟩ := hgo
      have e12 : g = g2 ∧ o' = o2 := by rw [h0] at hgo'; simpa using hgo'
      clear hgo hgo'
      obtain ⟨rfl, rfl⟩ := e12
      show World.cell? _ _ = some (if k < l.n then f k else xv)
      by_cases hk2 : k < l.n
      · rw [if_pos hk2, World.cell?_setCell_other _ _ _ _ (fun e => by injection e with _ e; omega), hcell _ h4]
        exact hf g o' h0 k hk2
      · rw [if_neg hk2]
        obtain rfl : k = l.n := by omega
        obtain ⟨y, hy⟩ := Option.isSome_iff_exists.1 (h5 l.n (by omega))
        exact World.cell?_setCell_same _ _ _ ((hcell ⟨g, o' + l.n, none⟩ h4).trans hy)
    · exact grow olds hol (fun g2 o2 e => by rw [h0] at e; injection e with e; injection e with e1 e2; subst e1 e2; exact hor)
/-- The same, the box's number told otherwise. -/
theorem wp_app' {W : World} (hgd : o.guard = none) (s x : Operand) (t E : TypeId) (z : Value) (bytes : Nat) (ho : o.op = .call { callee := .builtin .append, args := #[s, x], argTypes := #[t, t] })
    (ht : Tryd.prog.underlying t = some (.slice E)) (hinfo : (Tryd.prog.info? E).map (fun i => (i.zero, i.size, i.bytes)) = some (some z, 1, bytes)) (hz : z.cells.size = 1) (hb0 : 0 < bytes)
    (l : Hd) (xv : Value) (b : Nat) (hb : W.heap.size = b) (hs : a.eval s = l.v) (hx : a.eval x = .slice (some ⟨b, 0, none⟩) 1 1) (h1 : xv.oneCell' = true) (HO : HdOk W l) (hl : (l.n + 1) * bytes ≤ 140737488355328)
    (K : ∀ l1 w1, AppRel W l xv l1 w1 → wpList Tryd.prog ops Q rest (a.put o.dst l1.v) w1) : wpList Tryd.prog ops Q (o :: rest) a (W.alloc (.cells #[xv] E)) := by
  subst hb
  exact wp_app hgd s x t E z bytes ho ht hinfo hz hb0 l xv hs hx h1 HO hl K
end
end Go.Proofs.YtcikcnkhcfhomaaDoor.Hand
/- What dovetailkit's Apart.. looks at, told of memory: lists written full, gone on with, looked at. -/
namespace Go.Proofs.YtcikcnkhcfhomaaDoor.Hand
open Go.RowKit Go.Proofs.YtcikcnkhcfhomaaDoorW.PrintWords Go.Proofs.YtcikcnkhcfhomaaDoorW.PrintMore Go.Proofs.YtcikcnkhcfhomaaDoor.Math

def mkA (K : IntKind) (j k : Nat) : Value := .int K (1000 * (j : Int) + (k : Int))
def fullA (K : IntKind) (j n k : Nat) : Value := if k < n then mkA K j k else .int K (500000 + 1000 * (j : Int) + ((k - n : Nat) : Int))
abbrev hdD (H : List Hd) (j : Nat) : Hd := H.getD j hd0
def ApS (H : List Hd) (g : Nat) : Prop := ∃ j, j < H.length ∧ (hdD H j).blk = some g
/-- What is asked of the lists: each has memory of its own, and none lies in the row of lists. -/
structure ApPre (w : World) (A : Option Addr) (H : List Hd) : Prop where
  all : KH.C w A H.length H
  len : H.length ≤ 1000000000000
  ok : ∀ j, j < H.length → HdOk w (hdD H j)
  short : ∀ j, j < H.length → (hdD H j).n ≤ 1000000000000
  dis : ∀ i j g, i < H.length → j < H.length → i ≠ j → (hdD H i).blk = some g → (hdD H j).blk ≠ some g
  out : ∀ j ad, j < H.length → A = some ad → (hdD H j).blk ≠ some ad.block
structure Ap1 (K : IntKind) (w : World) (H : List Hd) (i k : Nat) (wr : World) : Prop where
  chg : Chg (ApS H) w wr
  ok : ∀ j, j < H.length → HdOk wr (hdD H j)
  rd : ∀ j, j < i → HdRead wr (hdD H j) (hdD H j).n (mkA K j)
  cur : HdRead wr (hdD H i) k (mkA K i)
theorem HdRead.none {w : World} {h : Hd} {n : Nat} {f : Nat → Value} (hh : h.ad = none) : HdRead w h n f := fun g o e => by rw [hh] at e; cases e
theorem HdRead.zero (w : World) (h : Hd) (f : Nat → Value) : HdRead w h 0 f := fun g o e k hk => by omega
theorem Ap1.start (K : IntKind) {w : World} {A : Option Addr} {H : List Hd} (h : ApPre w A H) : Ap1 K w H 0 0 w := ⟨Chg.refl _ _, h.ok, fun j hj => by omega, HdRead.zero _ _ _⟩
theorem Ap1.next {K : IntKind} {w wr : World} {H : List Hd} {i : Nat} (h : Ap1 K w H i (hdD H i).n wr) : Ap1 K w H (i + 1) 0 wr :=
  ⟨h.chg, h.ok, fun j hj => (by
    rcases Nat.lt_or_ge j i with h' | h'
    · exact h.rd j h'
    · obtain rfl : j = i := by omega
      exact h.cur), HdRead.zero _ _ _⟩
theorem hd_blk {h : Hd} {g o : Nat} (e : h.ad = some ⟨g, o, none⟩) : h.blk = some g := by unfold Hd.blk; rw [e]; rfl
theorem Ap1.put {K : IntKind} {w wr : World} {A : Option Addr} {H : List Hd} {i k g o : Nat} (hp : ApPre w A H) (h : Ap1 K w H i k wr) (hi : i < H.length) (hk : k < (hdD H i).n) (he : (hdD H i).ad = some ⟨g, o, none⟩) : Ap1 K w H i (k + 1) (wr.setCell ⟨g, o + k, none⟩ (mkA K i k)) := by
  refine ⟨h.chg.next (Chg.set wr ⟨g, o + k, none⟩ _) (fun x _ hx => ⟨i, hi, by rw [hd_blk he, hx]⟩), fun j hj => (h.ok j hj).set _ _, fun j hj g2 o2 e2 q hq => ?_, fun g2 o2 e2 q hq => ?_⟩
  · rw [World.cell?_setCell_other _ _ _ _ (fun e => by injection e with e1 _; exact hp.dis i j g hi (by omega) (by omega) (hd_blk he) (by rw [hd_blk e2, e1]))]
    exact h.rd j hj g2 o2 e2 q hq
  · rw [he] at e2
    have e12 : g = g2 ∧ o = o2 := by simpa using e2
    obtain ⟨rfl, rfl⟩ := e12
    by_cases e : q = k
    · subst e
      rcases h.ok i hi with ⟨e3, _⟩ | ⟨g3, o3, e3, e4, e5, e6, e7, e8⟩
      · rw [he] at e3; cases e3
      · rw [he] at e3
        have e12 : g = g3 ∧ o = o3 := by simpa using e3
        obtain ⟨rfl, rfl⟩ := e12
        obtain ⟨y, hy⟩ := Option.isSome_iff_exists.1 (e7 q (by omega))
        exact World.cell?_setCell_same _ _ _ hy
    · rw [World.cell?_setCell_other _ _ _ _ (fun e' => by injection e' with _ e'; omega)]
      exact h.cur g o he q (by omega)
structure Ap2 (K : IntKind) (T : TypeId) (w : World) (A : Option Addr) (H : List Hd) (i : Nat) (M : List Hd) (u : Value) (wr : World) : Prop where
  chg : Chg (ApS H) w wr
  ok : ∀ j, j < H.length → HdOk wr (hdD H j)
  rd : ∀ j, j < H.length → HdRead wr (hdD H j) (hdD H j).n (mkA K j)
  len : M.length = i
  mn : ∀ j, j < i → (hdD M j).n = (hdD H j).n + 30 ∧ (hdD M j).ad ≠ none
  mok : ∀ j, j < i → HdOk wr (hdD M j)
  mrd : ∀ j, j < i → HdRead wr (hdD M j) ((hdD H j).n + 30) (fullA K j (hdD H j).n)
  mblk : ∀ j j', j < i → j' < H.length → j' ≠ j → (hdD H j').blk ≠ (hdD M j).blk
  mown : ∀ j g, j < i → (hdD M j).blk = some g → u.ownBlock ≠ some g ∧ ∀ ad, A = some ad → ad.block ≠ g
  more : KH.R T wr w.heap.size (fun _ => True) u M
theorem Ap2.start {K : IntKind} {T : TypeId} {w wr : World} {A : Option Addr} {H : List Hd} (h : Ap1 K w H H.length 0 wr) : Ap2 K T w A H 0 [] (.slice none 0 0) wr :=
  ⟨h.chg, h.ok, h.rd, rfl, fun j hj => by omega, fun j hj => by omega, fun j hj => by omega, fun j j' hj => by omega, fun j g hj => by omega, Kd.R_nil _ _ _ _ _⟩
structure ApI (K : IntKind) (wi : World) (H : List Hd) (i k : Nat) (l : Hd) (wr : World) : Prop where
  chg : Chg (fun g => (hdD H i).blk = some g) wi wr
  n : l.n = (hdD H i).n + k
  ok : HdOk wr l
  rd : HdRead wr l ((hdD H i).n + k) (fullA K i (hdD H i).n)
  hok : ∀ j, j < H.length → HdOk wr (hdD H j)
  hrd : ∀ j, j < H.length → HdRead wr (hdD H j) (hdD H j).n (mkA K j)
  own : l.ad = (hdD H i).ad ∨ ∃ g, l.blk = some g ∧ wi.heap.size ≤ g
  got : 0 < k → l.ad ≠ none
theorem ApI.start {K : IntKind} {T : TypeId} {w wi : World} {A : Option Addr} {H M : List Hd} {i : Nat} {u : Value} (h : Ap2 K T w A H i M u wi) (hi : i < H.length) : ApI K wi H i 0 (hdD H i) wi :=
  ⟨Chg.refl _ _, rfl, h.ok i hi, (h.rd i hi).ext (fun k hk => by unfold fullA; rw [if_pos (by omega)]), h.ok, h.rd, .inl rfl, fun h => by omega⟩
theorem hd_none {h : Hd} (e : h.blk = none) : h.ad = none := by
  unfold Hd.blk at e
  cases hh : h.ad with
  | none => rfl
  | some a => rw [hh] at e; cases e
theorem ApPre.blk_lt {w : World} {A : Option Addr} {H : List Hd} (hp : ApPre w A H) {j g : Nat} (hj : j < H.length) (hg : (hdD H j).blk = some g) : g < w.heap.size := (hp.ok j hj).blk_lt hg
theorem ApI.step {K : IntKind} {w wi wr w1 : World} {A : Option Addr} {H : List Hd} {i k : Nat} {l l1 : Hd} (hp : ApPre w A H) (hs : w.heap.size ≤ wi.heap.size) (hi : i < H.length) (h : ApI K wi H i k l wr) (r : AppRel wr l (.int K (500000 + 1000 * (i : Int) + (k : Int))) l1 w1) : ApI K wi H i (k + 1) l1 w1 := by
  refine ⟨h.chg.next r.chg (fun x hx hl => ?_), by rw [r.n, h.n]; omega, r.ok, ?_, fun j hj => r.old _ (h.hok j hj), fun j hj => ?_, ?_, fun _ => r.some⟩
  · rcases h.own with e | ⟨g, e, hg⟩
    · unfold Hd.blk at hl ⊢; rw [← e]; exact hl
    · have : some g = some x := e.symm.trans hl
      have : g = x := by simpa using this
      omega
  · have q := r.rd (fullA K i (hdD H i).n) (by rw [h.n]; exact h.rd)
    rw [h.n] at q
    refine HdRead.ext (n := (hdD H i).n + (k + 1)) q (fun x hx => ?_)
    by_cases e : x < (hdD H i).n + k
    · rw [if_pos e]
    · rw [if_neg e]
      obtain rfl : x = (hdD H i).n + k := by omega
      unfold fullA
      rw [if_neg (by omega), Nat.add_sub_cancel_left]
  · cases hb : (hdD H j).blk with
    | none => exact HdRead.none (hd_none hb)
    | some g =>
      refine r.reads (h.hok j hj) ?_ (h.hrd j hj)
      by_cases e : j = i
      · subst e
        rcases h.own with e | ⟨g', e, hg⟩
        · exact .inr ⟨e.symm, by rw [h.n]; omega⟩
        · left
          rw [hb, e]
          intro e3
          have e3 : g = g' := by simpa using e3
          have := hp.blk_lt hj hb
          omega
      · left
        rcases h.own with e2 | ⟨g', e2, hg⟩
        · have : l.blk = (hdD H i).blk := by unfold Hd.blk; rw [e2]
          rw [this]
          intro e3
          exact hp.dis j i g hj hi e hb (e3.symm.trans hb)
        · rw [hb, e2]
          intro e3
          have e3 : g = g' := by simpa using e3
          have := hp.blk_lt hj hb
          omega
  · rcases r.own with ⟨e, _⟩ | ⟨⟨g, e, hg⟩, _⟩
    · rcases h.own with e2 | ⟨g, e2, hg⟩
      · exact .inl (e.trans e2)
      · exact .inr ⟨g, by unfold Hd.blk at e2 ⊢; rw [e]; exact e2, hg⟩
    · exact .inr ⟨g, e, Nat.le_trans h.chg.size hg⟩
theorem R_chg {α : Type} {d : Kd α} {e : Nat} {S : Nat → Prop} {w w2 : World} {base : Nat} {v : Value} {xs : List α} (h : d.R e w base (fun _ => True) v xs) (hc : Chg S w w2) (hs : ∀ k, base ≤ k → ¬ S k) : d.R e w2 base (fun _ => True) v xs :=
  Kd.R_mono (Kd.R_step (Kd.R_bound h) (fun k hk hlt => hc.block k hlt (hs k hk.2.1))) (fun _ _ => trivial)
theorem ApI.more {K : IntKind} {T : TypeId} {w wi wr : World} {A : Option Addr} {H M : List Hd} {i k : Nat} {l : Hd} {u : Value} (hp : ApPre w A H) (hi : i < H.length) (h2 : Ap2 K T w A H i M u wi) (h : ApI K wi H i k l wr) : KH.R T wr w.heap.size (fun _ => True) u M :=
  R_chg h2.more h.chg (fun x hx e => by have := hp.blk_lt hi e; omega)
theorem getD_snoc {α : Type} (M : List α) (x d : α) (j : Nat) : (M ++ [x]).getD j d = if j < M.length then M.getD j d else if j = M.length then x else d := by
  split
  · rename_i h; simp [List.getD_eq_getElem?_getD, List.getElem?_append_left h]
  · split
    · rename_i h h2; subst h2; simp [List.getD_eq_getElem?_getD]
    · simp [List.getD_eq_getElem?_getD, List.getElem?_eq_none (show (M ++ [x]).length ≤ j by simp; omega)]
theorem Ap2.next {K : IntKind} {T : TypeId} {w wi wr w2 : World} {A : Option Addr} {H M : List Hd} {i : Nat} {l : Hd} {u v1 : Value} (hp : ApPre w A H) (hi : i < H.length) (h2 : Ap2 K T w A H i M u wi) (h : ApI K wi H i 30 l wr)
    (hR : KH.R T w2 w.heap.size (fun _ => True) v1 (M ++ [l])) (hg : wr.grownBy w2 u.ownBlock) (hat : v1.ownBlock = u.ownBlock ∨ ∃ b, v1.ownBlock = some b ∧ wr.heap.size ≤ b) : Ap2 K T w A H (i + 1) (M ++ [l]) v1 w2 := by
  have hown : ∀ k, u.ownBlock = some k → w.heap.size ≤ k ∧ k < wi.heap.size := fun k hk => by
    have hb := Kd.R_bound h2.more
    have := hb.1 k hk
    exact ⟨this.2.1, this.2.2.1⟩
  have hws : w.heap.size ≤ wi.heap.size := h2.chg.size
  have hwr : wi.heap.size ≤ wr.heap.size := h.chg.size
  have kH : ∀ j, j < H.length → ∀ g, (hdD H j).blk = some g → w2.heap[g]? = wr.heap[g]? := fun j hj g hb => by
    have := hp.blk_lt hj hb
    exact hg.block g (by omega) (fun e => by have := hown g e.symm; omega)
  have hl2 : ∀ g, l.blk = some g → (hdD H i).blk = some g ∨ wi.heap.size ≤ g := fun g e => by
    rcases h.own with q | ⟨g', q, hq⟩
    · left; unfold Hd.blk at e ⊢; rw [← q]; exact e
    · right
      have : some g' = some g := q.symm.trans e
      have : g' = g := by simpa using this
      omega
  have hlr : ∀ g, l.blk = some g → g < wr.heap.size := fun g e => h.ok.blk_lt e
  have kl : ∀ g, l.blk = some g → w2.heap[g]? = wr.heap[g]? := fun g e => by
    have h3 := hlr g e
    refine hg.block g h3 (fun q => ?_)
    have h4 := hown g q.symm
    rcases hl2 g e with h5 | h5
    · have := hp.blk_lt hi h5; omega
    · omega
  have kM : ∀ j, j < i → ∀ g, (hdD M j).blk = some g → w2.heap[g]? = wi.heap[g]? := fun j hj g e => by
    have h3 := (h2.mok j hj).blk_lt e
    have h4 := (h2.mown j g hj e).1
    have h5 : ¬ (hdD H i).blk = some g := fun q => h2.mblk j i hj hi (by omega) (q.trans e.symm)
    exact (hg.block g (by omega) (fun q => h4 q.symm)).trans (h.chg.block g h3 h5)
  have hsz : wi.heap.size ≤ w2.heap.size := Nat.le_trans hwr hg.size
  have hlen := h2.len
  have cM : ∀ j, j < i → hdD (M ++ [l]) j = hdD M j := fun j hj => by unfold hdD; rw [getD_snoc, if_pos (by omega)]
  have cl : hdD (M ++ [l]) i = l := by unfold hdD; rw [getD_snoc, if_neg (by omega), if_pos hlen.symm]
  have lt : ∀ j, j < i + 1 → j < i ∨ j = i := fun j hj => by omega
  refine ⟨(h2.chg.next h.chg (fun x _ e => ⟨i, hi, e⟩)).next (Chg.of_grown hg) (fun x hx e => by have := hown x e; omega), fun j hj => (h.hok j hj).keep hg.size (kH j hj), fun j hj => (h.hrd j hj).keep (kH j hj), by simp [hlen], fun j hj => ?_, fun j hj => ?_, fun j hj => ?_, fun j j' hj hj' hne => ?_, fun j g hj e => ?_, hR⟩
  · rcases lt j hj with hj | rfl
    · rw [cM j hj]; exact h2.mn j hj
    · rw [cl]; exact ⟨h.n, h.got (by decide)⟩
  · rcases lt j hj with hj | rfl
    · rw [cM j hj]; exact (h2.mok j hj).keep hsz (kM j hj)
    · rw [cl]; exact h.ok.keep hg.size kl
  · rcases lt j hj with hj | rfl
    · rw [cM j hj]; exact (h2.mrd j hj).keep (kM j hj)
    · rw [cl]; exact h.rd.keep kl
  · rcases lt j hj with hj | rfl
    · rw [cM j hj]; exact h2.mblk j j' hj hj' hne
    · rw [cl]
      intro e
      cases hb : l.blk with
      | none => exact h.got (by decide) (hd_none hb)
      | some g =>
        rw [hb] at e
        rcases hl2 g hb with h5 | h5
        · exact hp.dis j' j g hj' hi hne e h5
        · have := hp.blk_lt hj' e; omega
  · rcases lt j hj with hj | rfl
    · rw [cM j hj] at e
      have h3 := (h2.mok j hj).blk_lt e
      refine ⟨fun q => ?_, (h2.mown j g hj e).2⟩
      rcases hat with hat | ⟨b, hat, hb⟩
      · exact (h2.mown j g hj e).1 (hat.symm.trans q)
      · have : some b = some g := hat.symm.trans q
        have : b = g := by simpa using this
        omega
    · rw [cl] at e
      refine ⟨fun q => ?_, fun ad ha q => ?_⟩
      · rcases hat with hat | ⟨b, hat, hb⟩
        · have h4 := hown g (hat.symm.trans q)
          rcases hl2 g e with h5 | h5
          · have := hp.blk_lt hi h5; omega
          · omega
        · have : some b = some g := hat.symm.trans q
          have : b = g := by simpa using this
          have := hlr g e
          omega
      · rcases hl2 g e with h5 | h5
        · exact hp.out j ad hi ha (by rw [h5, q])
        · have hA : ad.block < w.heap.size := by
            obtain ⟨e1, e2, e3⟩ := hp.all
            obtain ⟨ad', ha', hc⟩ := e3 (by omega)
            rw [ha] at ha'
            obtain rfl := Option.some.inj ha'
            obtain ⟨cs, q1, q2, q3⟩ := hc j H[j] (List.getElem?_eq_getElem hi)
            have q2' : cs = [H[j].v] := q2
            subst q2'
            have := World.block_lt_of_cell? _ _ (q3 0 _ rfl)
            rwa [blk_add] at this
          omega
/-- The row of lists stays. -/
theorem ApPre.stay {w wr : World} {A : Option Addr} {H : List Hd} (hp : ApPre w A H) (hc : Chg (ApS H) w wr) : KH.C wr A H.length H := by
  rcases Nat.eq_zero_or_pos H.length with h0 | h0
  · have : H = [] := List.eq_nil_of_length_eq_zero h0
    subst this
    exact ⟨rfl, by simp, fun h => absurd h (by simp)⟩
  · refine C_blk hp.all (fun ad ha => hc.block _ ?_ ?_)
    · obtain ⟨e1, e2, e3⟩ := hp.all
      obtain ⟨ad', ha', hc⟩ := e3 (by omega)
      rw [ha] at ha'
      obtain rfl := Option.some.inj ha'
      obtain ⟨cs, q1, q2, q3⟩ := hc 0 H[0] (List.getElem?_eq_getElem h0)
      have q2' : cs = [H[0].v] := q2
      subst q2'
      have := World.block_lt_of_cell? _ _ (q3 0 _ rfl)
      rwa [blk_add] at this
    · rintro ⟨j, hj, e⟩
      exact hp.out j ad hj ha e
theorem ApPre.head {w wr : World} {A : Option Addr} {H : List Hd} (hp : ApPre w A H) (hc : Chg (ApS H) w wr) {j : Nat} (hj : j < H.length) : ∃ ad, A = some ad ∧ wr.cell? (ad.add j) = some (hdD H j).v := by
  obtain ⟨ad, y, h1, h2, h3⟩ := at_scalar (hp.stay hc) j hj hd0
  exact ⟨ad, h1, by rw [h2, ← h3.out]⟩
theorem KH_head {w : World} {A : Option Addr} {H : List Hd} (hp : KH.C w A H.length H) {j : Nat} (hj : j < H.length) : ∃ ad, A = some ad ∧ w.cell? (ad.add j) = some (hdD H j).v := by
  obtain ⟨ad, y, h1, h2, h3⟩ := at_scalar hp j hj hd0
  exact ⟨ad, h1, by rw [h2, ← h3.out]⟩
theorem HdOk.form {w : World} {h : Hd} (hh : HdOk w h) : (h = hd0) ∨ ∃ g o n c, h = ⟨some ⟨g, o, none⟩, n, c⟩ ∧ n ≤ c ∧ (∀ j, j < c → ∃ y, w.cell? ⟨g, o + j, none⟩ = some y) ∧ ∀ j, w.frozen? ⟨g, j, none⟩ = false := by
  obtain ⟨ad, n, c⟩ := h
  rcases hh with ⟨h1, h2, h3⟩ | ⟨g, o, h1, h2, h3, h4, h5, h6⟩
  · simp only at h1 h2 h3
    subst h1 h2 h3
    exact .inl rfl
  · simp only at h1 h2 h3 h5
    subst h1
    exact .inr ⟨g, o, n, c, rfl, h2, fun j hj => Option.isSome_iff_exists.1 (h5 j hj), h6⟩
end Go.Proofs.YtcikcnkhcfhomaaDoor.Hand
/- dovetailkit.ApartInts, ApartSets: lists with memory of their own share none. -/
namespace Go.Proofs.YtcikcnkhcfhomaaDoor.Hand
open Go.RowKit Go.Proofs.YtcikcnkhcfhomaaDoorW.PrintWords Go.Proofs.YtcikcnkhcfhomaaDoorW.PrintMore Go.Proofs.YtcikcnkhcfhomaaDoor.Math

theorem infoIntss : (Tryd.prog.info? 22).map (fun i => (i.zero, i.size, i.bytes)) = some (some (.slice none 0 0), 1, 24) := by kernel_rfl
set_option maxHeartbeats 4000000 in
set_option maxRecDepth 100000 in
theorem apartInts_calls (A : Option Addr) (c : Nat) (H : List Hd) (w : World) (hp : ApPre w A H) :
    Calls Tryd.prog 19 #[.slice A H.length c] w fun e w' => e = .returned (.bool true) ∧ Chg (ApS H) w w' := by
  have HP := Lib.hid hp
  have hlen := hp.len
  clear hp
  go_enter Tryd.func19, Tryd.ntmps19
  go_wp2
  go_loopw [3, 4] (fun a _ wr => ∃ (j : Nat), j ≤ H.length ∧ a = .int .i64 j ∧ Hid (Ap1 .i64 w H j 0 wr)) (fun a _ _ => H.length - (intOf a).toNat)
  case atStart => exact ⟨0, by omega, rfl, Lib.hid (Ap1.start _ HP.out)⟩
  case round =>
    obtain ⟨j, hj, rfl, HS⟩ := hrel
    obtain ⟨wo, rfl⟩ : ∃ wo : World, wo = wr := ⟨_, rfl⟩
    by_cases hlt : j < H.length
    · obtain ⟨ad, rfl, hc⟩ := HP.out.head HS.out.chg hlt
      have hsh := HP.out.short j hlt
      obtain ⟨hd, hhd⟩ : ∃ h, hdD H j = h := ⟨_, rfl⟩
      have hok0 := HP.out.ok j hlt
      rw [hhd] at hc hsh hok0
      have HD := Lib.hid hhd
      clear hhd
      obtain ⟨yad, n, cc⟩ := hd
      have HOK0 := Lib.hid hok0
      simp only [Hd.v] at hc
      simp only at hsh
      clear hok0
      go_wp2
      clear hc
      go_loopw [4] (fun a wr => ∃ (q : Nat), q ≤ n ∧ a = .int .i64 q ∧ Hid (Ap1 .i64 w H j q wr)) (fun a _ => n - (intOf a).toNat)
      case atStart => exact ⟨0, by omega, rfl, HS⟩
      case round =>
        obtain ⟨q, hq, rfl, HS1⟩ := hrel
        obtain ⟨ad', ha', hc⟩ := HP.out.head HS1.out.chg hlt
        obtain rfl := Option.some.inj ha'
        rw [HD.out] at hc
        simp only [Hd.v] at hc
        by_cases hql : q < n
        · have hok := HS1.out.ok j hlt
          rw [HD.out] at hok
          rcases hok.form with e | ⟨g, o, n', c', e, hnc, hcell, hfr⟩
          · injection e with _ e _; omega
          · injection e with e1 e2 e3
            subst e1 e2 e3
            obtain ⟨y0, hy0⟩ := hcell q (by omega)
            have hf0 := hfr (o + q)
            have HNX := Lib.hid (HS1.out.put HP.out hlt (by rw [HD.out]; exact hql) (by rw [HD.out]))
            clear hok hcell hfr ha'
            go_wp2
            go_roundw
            case rel => exact ⟨q + 1, by omega, by go_num, HNX⟩
            case measure => simp [intOf]; omega
        · obtain rfl : q = n := by omega
          clear ha'
          go_wp2
          go_roundw
          case rel => exact ⟨j + 1, by omega, by go_num, Lib.hid (Ap1.next (by rw [HD.out]; exact HS1.out))⟩
          case measure => simp [intOf]; omega
    · obtain rfl : j = H.length := by omega
      have HS3 := Lib.hid (Ap2.start (T := 22) (A := A) HS.out)
      clear HS
      go_wp2
      go_loopw [5, 6, 7, 8] (fun uu a _ _ wr => ∃ (j : Nat) (M : List Hd) (u : Value), j ≤ H.length ∧ a = .int .i64 j ∧ u = uu ∧ Hid (Ap2 .i64 22 w A H j M u wr)) (fun _ a _ _ _ => H.length - (intOf a).toNat)
      case atStart => exact ⟨0, [], _, by omega, rfl, rfl, HS3⟩
      case round =>
        obtain ⟨j, M, u, hj, rfl, rfl, HS⟩ := hrel
        obtain ⟨wo, rfl⟩ : ∃ wo : World, wo = wr := ⟨_, rfl⟩
        by_cases hlt : j < H.length
        · obtain ⟨ad, rfl, hc⟩ := HP.out.head HS.out.chg hlt
          have hsh := HP.out.short j hlt
          have hi0 := ApI.start HS.out hlt
          obtain ⟨h0, hh0⟩ : ∃ h, hdD H j = h := ⟨_, rfl⟩
          rw [hh0] at hi0 hc hsh
          have HI0 := Lib.hid hi0
          have HH0 := Lib.hid hh0
          clear hi0 hh0
          simp only [Hd.v] at hc
          have hML := HS.out.len
          have HML := Lib.hid hML
          clear hML
          go_wp2
          go_loopw [7, 8] (fun lv a wr => ∃ (q : Nat) (l : Hd), q ≤ 30 ∧ a = .int .i64 q ∧ lv = .slice l.ad l.n l.c ∧ Hid (ApI .i64 wo H j q l wr)) (fun _ a _ => 30 - (intOf a).toNat)
          case atStart => exact ⟨0, _, by omega, rfl, rfl, HI0⟩
          case round =>
            obtain ⟨q, l, hq, rfl, rfl, HI⟩ := hrel
            have hln := HI.out.n
            rw [HH0.out] at hln
            have hln1 : (l.n + 1) * 8 ≤ 140737488355328 := by omega
            have HLN := Lib.hid hln1
            have HWS := Lib.hid (Nat.le_trans HS.out.chg.size HI.out.chg.size)
            clear hln hln1
            by_cases hql : q < 30
            · go_wp2_with ((with_reducible refine gate_builtin (b := .append) (xs := #[.tmp 52, .tmp 58]) rfl ?_); at_builtin; refine wp_app rfl (.tmp 52) (.tmp 58) 22 3 (.int .i64 0) 8 rfl Tryd.underlying22 infoInt rfl (by decide) l _ rfl rfl rfl HI.out.ok HLN.out ?_; intro l1 w1 hr; have HR := Lib.hid (HI.out.step HP.out HS.out.chg.size hlt hr); clear hr)
              go_roundw
              case rel => exact ⟨q + 1, l1, by omega, by go_num, rfl, HR⟩
              case measure => simp [intOf]; omega
            · obtain rfl : q = 30 := by omega
              have HMo := Lib.hid (HI.out.more HP.out hlt HS.out)
              go_wp2_with ((with_reducible refine gate_builtin (b := .append) (xs := #[.tmp 60, .tmp 62]) rfl ?_); at_builtin; go_loud (refine Kd.R_append KH (w0 := wr) w.heap.size rfl (.tmp 60) (.tmp 62) 34 22 (.slice none 0 0) 24 rfl Tryd.underlying34 infoIntss rfl (by decide) (by omega) u M l [.slice l.ad l.n l.c] (fun _ => True) (fun _ => False) rfl rfl rfl (fun _ hk => hk.elim) (fun _ _ => trivial) HMo.out (Below.refl _ _) HWS.out (by have := HML.out; omega) ?_); intro v1 w1 ho hb hg hat; (have HR := Lib.hid (Ap2.next HP.out hlt HS.out HI.out ho hg hat); clear ho hb hg hat))
              go_roundw
              case rel => exact ⟨j + 1, _, _, by omega, by go_num, rfl, HR⟩
              case measure => simp [intOf]; omega
        · obtain rfl : j = H.length := by omega
          obtain ⟨B, c2, rfl⟩ := Kd.R_slice HS.out.more
          have hML := HS.out.len
          obtain ⟨-, -, hMC⟩ := Kd.R_reads' HS.out.more
          have HMC := Lib.hid hMC
          have HCH := Lib.hid (HP.out.stay HS.out.chg)
          have HML := Lib.hid hML
          clear hMC hML
          go_wp2
          go_loopw [9, 10, 11, 12] (fun a _ _ _ wx => ∃ (i : Nat), i ≤ H.length ∧ a = .int .i64 i ∧ wo = wx) (fun a _ _ _ _ => H.length - (intOf a).toNat)
          case atStart => exact ⟨0, by omega, rfl, rfl⟩
          case round =>
            obtain ⟨i, hi, rfl, rfl⟩ := hrel
            by_cases hlt2 : i < H.length
            · obtain ⟨ad, rfl, hc⟩ := KH_head HCH.out hlt2
              have hmi : i < M.length := by have := HML.out; omega
              obtain ⟨ad2, rfl, hc2⟩ := KH_head HMC.out hmi
              obtain ⟨hmn, hma⟩ := HS.out.mn i hlt2
              have hsh := HP.out.short i hlt2
              have ho1 := HS.out.ok i hlt2
              have ho2 := HS.out.mok i hlt2
              have hr1 := HS.out.rd i hlt2
              have hr2 := HS.out.mrd i hlt2
              obtain ⟨x1, hx1⟩ : ∃ h, hdD H i = h := ⟨_, rfl⟩
              obtain ⟨x2, hx2⟩ : ∃ h, hdD M i = h := ⟨_, rfl⟩
              rw [hx1] at hc hmn hsh ho1 hr1 hr2
              rw [hx2] at hc2 hmn hma ho2 hr2
              rcases ho2.form with rfl | ⟨g2, o2, n2, c4, rfl, -, -, -⟩
              · exact absurd rfl hma
              obtain ⟨a1, n, c3⟩ := x1
              simp only at hmn hsh hr1 hr2
              simp only [Hd.v] at hc hc2
              subst hmn
              have HR1 := Lib.hid hr1
              have HR2 := Lib.hid hr2
              have HO1 := Lib.hid ho1
              clear hx1 hx2 ho1 ho2 hr1 hr2 hma
              go_wp2
              go_loopw [11] (fun a wx => ∃ (k : Nat), k ≤ n ∧ a = .int .i64 k ∧ wo = wx) (fun a _ => n - (intOf a).toNat)
              case atStart => exact ⟨0, by omega, rfl, rfl⟩
              case round =>
                obtain ⟨k, hk, rfl, rfl⟩ := hrel
                by_cases hkl : k < n
                · rcases HO1.out.form with e | ⟨g, o, n', c', e, -, -, -⟩
                  · injection e with _ e _; omega
                  · injection e with e1 e2 e3
                    subst e1 e2 e3
                    have hv1 : wo.cell? ⟨g, o + k, none⟩ = some (.int .i64 (1000 * (i : Int) + (k : Int))) := HR1.out g o rfl k hkl
                    have hv2 : wo.cell? ⟨g2, o2 + k, none⟩ = some (.int .i64 (1000 * (i : Int) + (k : Int))) := by
                      have := HR2.out g2 o2 rfl k (by omega)
                      rw [this]; unfold fullA; rw [if_pos hkl]; rfl
                    go_wp2
                    go_roundw
                    case rel => exact ⟨k + 1, by omega, by go_num, by trivial⟩
                    case measure => simp [intOf]; omega
                · obtain rfl : k = n := by omega
                  go_wp2
                  go_loopw [12] (fun a wx => ∃ (q : Nat), q ≤ 30 ∧ a = .int .i64 q ∧ wo = wx) (fun a _ => 30 - (intOf a).toNat)
                  case atStart => exact ⟨0, by omega, rfl, rfl⟩
                  case round =>
                    obtain ⟨q, hq, rfl, rfl⟩ := hrel
                    by_cases hql : q < 30
                    · have hv2 : wo.cell? ⟨g2, o2 + (k + q), none⟩ = some (.int .i64 (500000 + 1000 * (i : Int) + (q : Int))) := by
                        have := HR2.out g2 o2 rfl (k + q) (by omega)
                        rw [this]; unfold fullA; rw [if_neg (by omega), Nat.add_sub_cancel_left]
                      go_wp2
                      go_roundw
                      case rel => exact ⟨q + 1, by omega, by go_num, by trivial⟩
                      case measure => simp [intOf]; omega
                    · obtain rfl : q = 30 := by omega
                      go_wp2
                      go_roundw
                      case rel => exact ⟨i + 1, by omega, by go_num, by trivial⟩
                      case measure => simp [intOf]; omega
            · go_wp2
              go_ret
              exact ⟨rfl, HS.out.chg⟩
end Go.Proofs.YtcikcnkhcfhomaaDoor.Hand
/- Lists that own their memory, by their heads; some of them in a row of new memory. -/
namespace Go.Proofs.YtcikcnkhcfhomaaDoor.Hand
open Go.RowKit Go.Proofs.YtcikcnkhcfhomaaDoorW.PrintWords Go.Proofs.YtcikcnkhcfhomaaDoorW.PrintMore Go.Proofs.YtcikcnkhcfhomaaDoor.Math

/-- A list that owns its memory, by its head. -/
theorem R_hd {w : World} {e base : Nat} {v : Value} {xs : List Int} (h : (Kd.int .i64).R e w base (fun _ => True) v xs) : ∃ hd : Hd, v = .slice hd.ad hd.n hd.c ∧ hd.n = xs.length ∧ HdOk w hd ∧ ∀ g, hd.blk = some g → base ≤ g ∧ g < w.heap.size := by
  have ho := Kd.own_of_R (enc := Value.int .i64) (h1 := fun _ => rfl) h
  obtain ⟨h1, h2⟩ := ho
  rcases h2 with ⟨rfl, h0⟩ | ⟨g, cap, cur, rfl, hb, hg, hn', hc, hs, ht⟩
  · exact ⟨hd0, rfl, h0.symm, .inl ⟨rfl, rfl, rfl⟩, fun g hg => by cases hg⟩
  · have hlt := (Array.getElem?_eq_some_iff.1 hg).1
    refine ⟨⟨some ⟨g, 0, none⟩, xs.length, cap⟩, rfl, rfl, .inr ⟨g, 0, rfl, hn', hc, hlt, fun j hj => ?_, fun j => ?_⟩, fun g' hg' => ?_⟩
    · have hj' : j < cap := hj
      rw [Nat.zero_add, cell_of_row w g j cur e (0, 0) hg, Array.getElem?_eq_getElem (by omega)]; rfl
    · simp [World.frozen?, hg]
    · have : g = g' := by simpa [Hd.blk] using hg'
      omega
/-- Lists, each in memory of its own, in a row of new memory. -/
theorem hds_pre {W W' : World} {H : List Hd} (hW' : W' = W.alloc (.cells (H.map Hd.v).toArray 22)) (hl : H.length ≤ 1000000)
    (hok : ∀ h ∈ H, HdOk W h ∧ h.n ≤ 1000000000000) (hdis : ∀ i j g, i < H.length → j < H.length → i < j → (hdD H i).blk = some g → (hdD H j).blk ≠ some g) :
    ApPre W' (some ⟨W.heap.size, 0, none⟩) H := by
  subst hW'
  have hb : Below W.heap.size W (W.alloc (.cells (H.map Hd.v).toArray 22)) := below_alloc (Below.refl _ _) _
  have hm : ∀ j, j < H.length → hdD H j ∈ H := fun j hj => by
    show H.getD j hd0 ∈ H
    exact getD_mem H j hd0 hj
  refine ⟨(Kd.R_reads' (R_lit (enc := Hd.v) (h1 := fun _ => rfl) 22 W.heap.size W H (Nat.le_refl _) (by unfold maxLen; omega))).2.2, by omega, fun j hj => ?_, fun j hj => (hok _ (hm j hj)).2, fun i j g hi hj hne e1 e2 => ?_, fun j ad hj ha e => ?_⟩
  · have hh := (hok _ (hm j hj)).1
    exact hh.keep hb.size (fun g hg => hb.block g (hh.blk_lt hg))
  · rcases Nat.lt_or_gt_of_ne hne with h | h
    · exact hdis i j g hi hj h e1 e2
    · exact hdis j i g hj hi h e2 e1
  · have := (hok _ (hm j hj)).1.blk_lt e
    have e2 : ad = ⟨W.heap.size, 0, none⟩ := by simpa using ha.symm
    subst e2
    exact Nat.lt_irrefl _ this
/-- Two of them. -/
theorem two_pre {W W' : World} {h1 h2 : Hd} {b1 : Nat} (hW' : W' = W.alloc (.cells #[h1.v, h2.v] 22)) (k1 : HdOk W h1) (k2 : HdOk W h2) (n1 : h1.n ≤ 1000000000000) (n2 : h2.n ≤ 1000000000000)
    (r1 : ∀ g, h1.blk = some g → g < b1) (r2 : ∀ g, h2.blk = some g → b1 ≤ g) : ApPre W' (some ⟨W.heap.size, 0, none⟩) [h1, h2] := by
  refine hds_pre hW' (by simp) (fun h hh => ?_) (fun i j g hi hj hij e1 e2 => ?_)
  · simp only [List.mem_cons, List.not_mem_nil, or_false] at hh
    rcases hh with rfl | rfl
    · exact ⟨k1, n1⟩
    · exact ⟨k2, n2⟩
  · simp only [List.length_cons, List.length_nil] at hi hj
    obtain ⟨rfl, rfl⟩ : i = 0 ∧ j = 1 := by omega
    have := r1 g e1
    have := r2 g e2
    omega
/-- Four of them. -/
theorem four_pre {W W' : World} {h1 h2 h3 h4 : Hd} {b1 b2 b3 : Nat} (hW' : W' = W.alloc (.cells #[h1.v, h2.v, h3.v, h4.v] 22))
    (k1 : HdOk W h1) (k2 : HdOk W h2) (k3 : HdOk W h3) (k4 : HdOk W h4) (n1 : h1.n ≤ 1000000000000) (n2 : h2.n ≤ 1000000000000) (n3 : h3.n ≤ 1000000000000) (n4 : h4.n ≤ 1000000000000)
    (r1 : ∀ g, h1.blk = some g → g < b1) (r2 : ∀ g, h2.blk = some g → b1 ≤ g ∧ g < b2) (r3 : ∀ g, h3.blk = some g → b2 ≤ g ∧ g < b3) (r4 : ∀ g, h4.blk = some g → b3 ≤ g) (hs : b1 ≤ b2 ∧ b2 ≤ b3) :
    ApPre W' (some ⟨W.heap.size, 0, none⟩) [h1, h2, h3, h4] := by
  refine hds_pre hW' (by simp) (fun h hh => ?_) (fun i j g hi hj hij e1 e2 => ?_)
  · simp only [List.mem_cons, List.not_mem_nil, or_false] at hh
    rcases hh with rfl | rfl | rfl | rfl
    · exact ⟨k1, n1⟩
    · exact ⟨k2, n2⟩
    · exact ⟨k3, n3⟩
    · exact ⟨k4, n4⟩
  · simp only [List.length_cons, List.length_nil] at hi hj
    have rng : ∀ j g, j < 4 → (hdD [h1, h2, h3, h4] j).blk = some g → (j = 0 → g < b1) ∧ (j = 1 → b1 ≤ g ∧ g < b2) ∧ (j = 2 → b2 ≤ g ∧ g < b3) ∧ (j = 3 → b3 ≤ g) := fun j g hj e => by
      obtain rfl | rfl | rfl | rfl : j = 0 ∨ j = 1 ∨ j = 2 ∨ j = 3 := by omega
      · have := r1 g e; omega
      · have := r2 g e; omega
      · have := r3 g e; omega
      · have := r4 g e; omega
    have q1 := rng i g (by omega) e1
    have q2 := rng j g (by omega) e2
    obtain rfl | rfl | rfl | rfl : i = 0 ∨ i = 1 ∨ i = 2 ∨ i = 3 := by omega
    all_goals obtain rfl | rfl | rfl | rfl : j = 0 ∨ j = 1 ∨ j = 2 ∨ j = 3 := by omega
    all_goals simp at q1 q2 hij
    all_goals omega
theorem apS_ge {H : List Hd} {b g : Nat} (h : ∀ x ∈ H, ∀ g, x.blk = some g → b ≤ g) (hg : ApS H g) : b ≤ g := by
  obtain ⟨j, hj, e⟩ := hg
  exact h _ (getD_mem H j hd0 hj) g e
end Go.Proofs.YtcikcnkhcfhomaaDoor.Hand
/- Contracts of dovetailkit: are two lists the same? -/
namespace Go.Proofs.YtcikcnkhcfhomaaDoor.Hand
open Go.RowKit Go.Proofs.YtcikcnkhcfhomaaDoorW.PrintWords Go.Proofs.YtcikcnkhcfhomaaDoorW.PrintMore Go.Proofs.YtcikcnkhcfhomaaDoor.Math

/-- Are two lists the same? -/
theorem ints_calls (A B : Option Addr) (c d : Nat) (l m : List Int) (w : World) (hr : Kd.C (Kd.int .i64) w A l.length l) (hq : Kd.C (Kd.int .i64) w B m.length m) : Quiet 18 #[.slice A l.length c, .slice B m.length d] w (.bool (decide (l = m))) := by
  unfold Quiet
  have hlen := hr.2.1
  have hlen2 := hq.2.1
  have HR := Lib.hid hr
  have HQ := Lib.hid hq
  clear hr hq
  by_cases hl : l.length = m.length
  · have hlI : ((l.length : Int) == (m.length : Int)) = true := by simp [hl]
    have HL := Lib.hid hl
    go_enter Tryd.func18, Tryd.ntmps18
    go_wp2
    go_loopw [5] (fun i wr => ∃ (j d : Nat), j ≤ l.length ∧ i = .int .i64 j ∧ wr = w.drewN d ∧ Hid (l.take j = m.take j)) (fun i _ => l.length - (intOf i).toNat)
    case atStart => exact ⟨0, 0, by omega, rfl, rfl, Lib.hid (by simp)⟩
    case round =>
      obtain ⟨j, d, hj, rfl, rfl, HT⟩ := hrel
      by_cases hlt : j < l.length
      · obtain ⟨ad, y, rfl, hc, HY⟩ := at_scalar HR.out j hlt 0
        obtain ⟨ad2, y2, rfl, hc2, HY2⟩ := at_scalar HQ.out j (by omega) 0
        have hlt2 : j < m.length := by omega
        by_cases e : y = y2
        · subst e
          go_wp2
          go_quiet (fail)
          go_wp2
          go_roundw
          case rel => exact ⟨j + 1, _, by omega, by go_num, rfl, Lib.hid (by rw [take_snocD l j 0 hlt, take_snocD m j 0 hlt2, HT.out, HY.out, HY2.out])⟩
          case measure => simp [intOf]; omega
        · have HE : Hid (decide (l = m) = false) := Lib.hid (decide_eq_false (fun h => e (by rw [← HY.out, ← HY2.out, h])))
          have HN := Lib.hid e
          have hn : ((y : Int) == y2) = false := by simpa using e
          clear e
          go_wp2
          go_quiet (fail)
          go_wp2
          go_ret
          exact ⟨ret_bool HE.out.symm, _, World.drewN_drewN _ _ _⟩
      · have HE : Hid (decide (l = m) = true) := Lib.hid (decide_eq_true (by
          have := HT.out
          rwa [List.take_of_length_le (by omega), List.take_of_length_le (by have := HL.out; omega)] at this))
        go_wp2
        go_ret
        exact ⟨ret_bool HE.out.symm, _, rfl⟩
  · have HE : Hid (decide (l = m) = false) := Lib.hid (decide_eq_false (fun h => hl (by rw [h])))
    have hlI : ((l.length : Int) == (m.length : Int)) = false := by simp; omega
    have hlN : decide (l.length = m.length) = false := by simp [hl]
    have HL := Lib.hid hl
    clear hl
    go_enter Tryd.func18, Tryd.ntmps18
    go_wp2
    go_ret
    exact ⟨ret_bool HE.out.symm, 0, rfl⟩
end Go.Proofs.YtcikcnkhcfhomaaDoor.Hand
/- PlanOrders: Left, Right and Even of every number of pieces. -/
namespace Go.Proofs.YtcikcnkhcfhomaaDoor.Hand
open Go.RowKit Go.Proofs.YtcikcnkhcfhomaaDoorW.PrintWords Go.Proofs.YtcikcnkhcfhomaaDoorW.PrintMore Go.Proofs.YtcikcnkhcfhomaaDoor.Math

theorem Quiet.mono {f : FuncId} {args : Array Value} {w : World} {v : Value} {Q : Ending → World → Prop} (h : Quiet f args w v) (k : ∀ e w', (e = .returned v ∧ ∃ n, w' = w.drewN n) → Q e w') : Calls Tryd.prog f args w Q := Calls.mono h k
theorem R_hd' {w : World} {e base n c : Nat} {A : Option Addr} {xs : List Int} (h : (Kd.int .i64).R e w base (fun _ => True) (.slice A n c) xs) : HdOk w ⟨A, n, c⟩ ∧ ∀ g, (⟨A, n, c⟩ : Hd).blk = some g → base ≤ g ∧ g < w.heap.size := by
  obtain ⟨⟨A', n', c'⟩, h1, h2, h3, h4⟩ := R_hd h
  injection h1 with e1 e2 e3
  subst e1 e2 e3
  exact ⟨h3, h4⟩
theorem ordN_len (m : Int) {f : Nat → List Int} (hf : ∀ m, (f m).length = m - 1) : (ordN m f).length ≤ 65536 := by
  unfold ordN
  split
  · rw [hf]; omega
  · simp
theorem evenR_len (m : Nat) : (evenR m).length = m - 1 := by rw [← even_is, evenS_length]
set_option maxHeartbeats 2000000 in
theorem planOrders_walk {w : World} (m : Int) (hm : (Lit.int .i64 m).wf = true) (hE : ∃ Ae, ErrsL [0, 7, 8] w Ae) :
    Calls Tryd.prog 4 #[.int .i64 m] w fun e w' => e = .returned (.bool true) ∧ Below w.heap.size w w' := by
  obtain ⟨Ae, hE⟩ := hE
  have hmb : -9223372036854775808 ≤ m ∧ m ≤ 9223372036854775807 := by simpa [Lit.wf, IntKind.min, IntKind.max, IntKind.bits, IntKind.signed] using hm
  have HE := Lib.hid hE
  obtain ⟨la, hla⟩ : ∃ l, ordN m leftN = l := ⟨_, rfl⟩
  obtain ⟨lb, hlb⟩ : ∃ l, ordN m rightN = l := ⟨_, rfl⟩
  obtain ⟨lc, hlc⟩ : ∃ l, ordN m evenR = l := ⟨_, rfl⟩
  have na : la.length ≤ 65536 := by rw [← hla]; exact ordN_len m (fun m => by simp [leftN])
  have nb : lb.length ≤ 65536 := by rw [← hlb]; exact ordN_len m (fun m => by simp [rightN])
  have nc : lc.length ≤ 65536 := by rw [← hlc]; exact ordN_len m evenR_len
  have HL := Lib.hid (fun W => left_calls m W)
  have HR := Lib.hid (fun W => right_calls m W)
  have HV := Lib.hid (fun W => even_calls m W)
  have HX := Lib.hid (fun W => refLeft_calls m W hmb)
  have HY := Lib.hid (fun W => refRight_calls m W hmb)
  have HZ := Lib.hid (fun W => refEven_calls m W hmb)
  rw [hla] at HL HX
  rw [hlb] at HR HY
  rw [hlc] at HV HZ
  clear hE hm hla hlb hlc hmb
  go_enter Tryd.func4, Tryd.ntmps4
  go_upto_region 8 with (first
    | (go_at_call 12; refine (HL.out _).mono ?_; rintro e w1 ⟨v1, rfl, ho, hb⟩; obtain ⟨A1, c1, rfl⟩ := Kd.R_slice ho; have HO1 := Lib.hid ho; have HB1 := Lib.hid hb; clear ho hb)
    | (go_at_call 13; refine (HR.out _).mono ?_; rintro e w2 ⟨v2, rfl, ho, hb⟩; obtain ⟨A2, c2, rfl⟩ := Kd.R_slice ho; have HO2 := Lib.hid ho; have HB2 := Lib.hid hb; clear ho hb)
    | (go_at_call 14; refine (HV.out w3).mono ?_; rintro e w4 ⟨v4, rfl, ho, hb⟩; obtain ⟨A4, c4, rfl⟩ := Kd.R_slice ho; have HO4 := Lib.hid ho; have HB4 := Lib.hid hb; clear ho hb)
    | (go_at_call 14; refine (HV.out w2).mono ?_; rintro e w3 ⟨v3, rfl, ho, hb⟩; obtain ⟨A3, c3, rfl⟩ := Kd.R_slice ho; have HO3 := Lib.hid ho; have HB3 := Lib.hid hb; clear ho hb)
    | (go_at_call 15; refine (HX.out _).mono ?_; rintro e w5 ⟨v5, rfl, ho, hb⟩; obtain ⟨A5, c5, rfl⟩ := Kd.R_slice ho; have HO5 := Lib.hid ho; have HB5 := Lib.hid hb; clear ho hb)
    | (go_at_call 16; refine (HY.out _).mono ?_; rintro e w6 ⟨v6, rfl, ho, hb⟩; obtain ⟨A6, c6, rfl⟩ := Kd.R_slice ho; have HO6 := Lib.hid ho; have HB6 := Lib.hid hb; clear ho hb)
    | (go_at_call 17; refine (HZ.out _).mono ?_; rintro e w7 ⟨v7, rfl, ho, hb⟩; obtain ⟨A7, c7, rfl⟩ := Kd.R_slice ho; have HO7 := Lib.hid ho; have HB7 := Lib.hid hb; clear ho hb))
  have up2 := HB2.out
  have up3 := HB3.out
  have up4 := HB4.out
  have up5 := HB5.out
  have up6 := HB6.out
  have up7 := HB7.out
  have s1 := HB1.out.size
  have s2 := up2.size
  have s3 := up3.size
  have s4 := up4.size
  have s5 := up5.size
  have s6 := up6.size
  have s7 := up7.size
  have b27 : Below w1.heap.size w1 w7 := below_next (below_next (below_next (below_next (below_next up2 up3) up4) up5) up6) up7
  have b37 : Below w2.heap.size w2 w7 := below_next (below_next (below_next (below_next up3 up4) up5) up6) up7
  have b47 : Below w3.heap.size w3 w7 := below_next (below_next (below_next up4 up5) up6) up7
  have b57 : Below w4.heap.size w4 w7 := below_next (below_next up5 up6) up7
  have b67 : Below w5.heap.size w5 w7 := below_next up6 up7
  have HB := Lib.hid (below_next HB1.out b27)
  have rd : ∀ {w1 : World} {base : Nat} {A : Option Addr} {n c : Nat} {l : List Int}, (Kd.int .i64).R 3 w1 base (fun _ => True) (.slice A n c) l → Below w1.heap.size w1 w7 → ∀ W, Below w7.heap.size w7 W → Kd.C (Kd.int .i64) W A l.length l := fun h hb W hW => Kd.C_below (Kd.C_below (Kd.R_reads' h).2.2 hb) hW
  have HC1 := Lib.hid (rd HO1.out b27)
  have HC2 := Lib.hid (rd HO2.out b37)
  have HC3 := Lib.hid (rd HO3.out b47)
  have HC4 := Lib.hid (rd HO4.out b57)
  have HC5 := Lib.hid (rd HO5.out b67)
  have HC6 := Lib.hid (rd HO6.out up7)
  have HC7 := Lib.hid (rd HO7.out (Below.refl _ _))
  have kk : ∀ {W W' : World} {h : Hd}, HdOk W h → Below W.heap.size W W' → HdOk W' h := fun hh hb => hh.keep hb.size (fun g hg => hb.block g (hh.blk_lt hg))
  obtain ⟨k1, r1⟩ := R_hd' HO1.out
  obtain ⟨k2, r2⟩ := R_hd' HO2.out
  obtain ⟨k3, r3⟩ := R_hd' HO3.out
  obtain ⟨k4, r4⟩ := R_hd' HO4.out
  have HAp : Hid (∀ W, Below w7.heap.size w7 W → W.heap.size = w7.heap.size → Calls Tryd.prog 19 #[.slice (some ⟨w7.heap.size, 0, none⟩) 4 4] (W.alloc (.cells #[.slice A1 la.length c1, .slice A2 lb.length c2, .slice A3 lc.length c3, .slice A4 lc.length c4] 22)) fun e w' => e = .returned (.bool true) ∧ Below w.heap.size w w') := Lib.hid (fun W hW hsz => by
    have hpre := four_pre (W := W) (h1 := ⟨A1, la.length, c1⟩) (h2 := ⟨A2, lb.length, c2⟩) (h3 := ⟨A3, lc.length, c3⟩) (h4 := ⟨A4, lc.length, c4⟩) (b1 := w1.heap.size) (b2 := w2.heap.size) (b3 := w3.heap.size) rfl (kk (kk k1 b27) hW) (kk (kk k2 b37) hW) (kk (kk k3 b47) hW) (kk (kk k4 b57) hW) (by show la.length ≤ _; omega) (by show lb.length ≤ _; omega) (by show lc.length ≤ _; omega) (by show lc.length ≤ _; omega)
      (fun g hg => (r1 g hg).2) r2 r3 (fun g hg => (r4 g hg).1) ⟨s2, s3⟩
    rw [hsz] at hpre
    refine (apartInts_calls (some ⟨w7.heap.size, 0, none⟩) 4 _ _ hpre).mono ?_
    rintro e w' ⟨rfl, hc⟩
    have hb8 : Below w.heap.size w (W.alloc (.cells #[.slice A1 la.length c1, .slice A2 lb.length c2, .slice A3 lc.length c3, .slice A4 lc.length c4] 22)) := below_alloc (below_next HB.out hW) _
    refine ⟨rfl, hb8.trans (hc.below hb8.size (fun k hk hS => ?_))⟩
    have := apS_ge (b := w.heap.size) (fun x hx g hg => by
      simp only [List.mem_cons, List.not_mem_nil, or_false] at hx
      rcases hx with rfl | rfl | rfl | rfl
      · exact (r1 g hg).1
      · have := (r2 g hg).1; omega
      · have := (r3 g hg).1; omega
      · have := (r4 g hg).1; omega) hS
    omega)
  have HAw : Hid (∀ W, Below w.heap.size w W → Calls Tryd.prog 11 #[] W fun e w' => e = .returned (.bool true) ∧ Below w.heap.size w w') := Lib.hid (fun W hW =>
    (awake_calls W Ae (HE.out.below hW)).mono (fun e w' h => ⟨h.1, below_next hW h.2⟩))
  have HI1 := Lib.hid (fun W hW => ints_calls A1 A5 c1 c5 la la W (HC1.out W hW) (HC5.out W hW))
  have HI2 := Lib.hid (fun W hW => ints_calls A2 A6 c2 c6 lb lb W (HC2.out W hW) (HC6.out W hW))
  have HI3 := Lib.hid (fun W hW => ints_calls A3 A7 c3 c7 lc lc W (HC3.out W hW) (HC7.out W hW))
  have HI4 := Lib.hid (fun W hW => ints_calls A4 A7 c4 c7 lc lc W (HC4.out W hW) (HC7.out W hW))
  rw [decide_eq_true rfl] at HI1 HI2 HI3 HI4
  clear up2 up3 up4 up5 up6 up7 s1 s2 s3 s4 s5 s6 s7 b27 b37 b47 b57 b67 rd kk k1 k2 k3 k4 r1 r2 r3 r4 na nb nc
  by_cases h2 : 200 < m
  · go_wp2_with (first
      | (go_at_call 18; (with_reducible refine (HI1.out _ (Below.refl _ _)).mono ?_); rintro e w' ⟨rfl, n1, rfl⟩)
      | (go_at_call 18; (with_reducible refine (HI2.out _ (pw_below_drewN (Below.refl _ _) _)).mono ?_); rintro e w' ⟨rfl, n2, rfl⟩)
      | (go_at_call 18; (with_reducible refine (HI3.out _ (pw_below_drewN (Below.refl _ _) _)).mono ?_); rintro e w' ⟨rfl, n3, rfl⟩)
      | (go_at_call 18; (with_reducible refine (HI4.out _ (pw_below_drewN (Below.refl _ _) _)).mono ?_); rintro e w' ⟨rfl, n4, rfl⟩)
      | (go_at_call 19; refine (HAp.out _ (pw_below_drewN (Below.refl _ _) _) (by simp)).mono ?_; rintro e w8 ⟨rfl, hb⟩; have HB8 := Lib.hid hb; clear hb)
      | (go_at_call 11; refine (HAw.out _ (pw_below_drewN HB.out _)).mono ?_; rintro e w9 ⟨rfl, hb⟩; have HB9 := Lib.hid hb; clear hb))
    go_ret
    exact ⟨ret_bool (by simp), HB9.out⟩
  · go_wp2_with (first
      | (go_at_call 18; (with_reducible refine (HI1.out _ (Below.refl _ _)).mono ?_); rintro e w' ⟨rfl, n1, rfl⟩)
      | (go_at_call 18; (with_reducible refine (HI2.out _ (pw_below_drewN (Below.refl _ _) _)).mono ?_); rintro e w' ⟨rfl, n2, rfl⟩)
      | (go_at_call 18; (with_reducible refine (HI3.out _ (pw_below_drewN (Below.refl _ _) _)).mono ?_); rintro e w' ⟨rfl, n3, rfl⟩)
      | (go_at_call 18; (with_reducible refine (HI4.out _ (pw_below_drewN (Below.refl _ _) _)).mono ?_); rintro e w' ⟨rfl, n4, rfl⟩)
      | (go_at_call 19; refine (HAp.out _ (pw_below_drewN (Below.refl _ _) _) (by simp)).mono ?_; rintro e w8 ⟨rfl, hb⟩; have HB8 := Lib.hid hb; clear hb)
      | (go_at_call 11; refine (HAw.out _ HB8.out).mono ?_; rintro e w9 ⟨rfl, hb⟩; have HB9 := Lib.hid hb; clear hb))
    go_ret
    exact ⟨ret_bool (by simp), HB9.out⟩
end Go.Proofs.YtcikcnkhcfhomaaDoor.Hand
