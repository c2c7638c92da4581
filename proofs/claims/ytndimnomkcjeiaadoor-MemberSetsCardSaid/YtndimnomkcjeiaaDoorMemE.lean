/- Contracts of package member: Sets, From, Derives. -/
import Derived.Test.YtndimnomkcjeiaaDoorMemD
namespace Go.Proofs.YtndimnomkcjeiaaDoor.Hand
open Go.RowKit Go.Proofs.YtndimnomkcjeiaaDoorW.PrintWords Go.Proofs.YtndimnomkcjeiaaDoorW.PrintMore Go.Proofs.YtndimnomkcjeiaaDoor.Math

theorem charted_err (v : Value) (g : Gr) (At : Option Addr) (ct : Nat) (tk : List Int) (w : World) (A : Nat → Addr) (hE : Errs w A) (hv : GramAt w v g) (hlc : tk.length ≤ ct) (hr : Kd.C (Kd.int .i64) w At tk.length tk) (hok : ¬ (mayN g tk).1 = 0) :
    Calls Tryd.prog 32 #[v, .slice At tk.length ct] w fun e w' => ∃ u, e = .returned (.tuple #[.pointer none, u]) ∧ ErrV w' A u (mayN g tk).1 (mayN g tk).2 ∧ Below w.heap.size w w' := by
  have HV := Lib.hid hv
  obtain ⟨AT, cT, AN, cN, AR, cR, rfl, q1, q2, q3, q4, q5, q6⟩ := hv
  have hlen := hr.2.1
  obtain ⟨w1, hw1⟩ : ∃ w1, w.alloc (.cells #[.slice AT g.terms.length cT, .slice AN g.nonterms.length cN, .int .i64 g.ax, .slice AR g.rules.length cR] 25) = w1 := ⟨_, rfl⟩
  have hb1 : Below w.heap.size w w1 := by rw [← hw1]; exact below_alloc (Below.refl _ _) _
  have hk1 : w1.heap[w.heap.size]? = some (.cells #[.slice AT g.terms.length cT, .slice AN g.nonterms.length cN, .int .i64 g.ax, .slice AR g.rules.length cR] 25 (0, 0)) := by rw [← hw1]; exact heap_alloc_new w _
  obtain ⟨c0, c1, c2, c3⟩ := blk_cells2 hk1
  have HB1 := Lib.hid hb1
  have HM := Lib.hid (may_calls _ g At ct tk w1 A (hE.below hb1) (HV.out.below hb1) hlc (Kd.C_below hr hb1))
  have HOK := Lib.hid hok
  clear hb1 hk1 hE q4 q5 q6 hr hok
  go_enter Tryd.func32, Tryd.ntmps32
  go_wp2_with (go_at_call 42; refine HM.out.mono ?_; rintro e w2 ⟨u, rfl, hu, hb2⟩; have HU := Lib.hid hu; have HB2 := Lib.hid hb2; obtain ⟨T, p, hT, rfl⟩ := hu.iface_of HOK.out; clear hu hb2 hT)
  go_ret2
  exact ⟨_, rfl, HU.out, below_next HB1.out HB2.out⟩
/-- What a right chart holds. -/
structure SetsAt (w0 : World) (g : Gr) (tk : List Int) (O : Nat) (Bs : Nat → Nat) (Tn : Nat → Nat → Nat) (w : World) : Prop where
  bel : Below w0.heap.size w0 w
  out : Row w O (tk.length + 1) (fun i => .slice (some ⟨Bs i, 0, none⟩) (tk.length - i + 1) (tk.length - i + 1))
  inn : ∀ i, i ≤ tk.length → Row w (Bs i) (tk.length - i + 1) (fun d => .int .u64 (Tn i (i + d) : Nat))
  lim : ∀ i j, Tn i j < 2 ^ g.nonterms.length
  is : Exact g.rules tk tk.length g.nonterms.length (tabOf Tn)
  hO : w0.heap.size ≤ O
  hB : ∀ i, i ≤ tk.length → w0.heap.size ≤ Bs i ∧ Bs i ≠ O
  inj : ∀ i j, i ≤ tk.length → j ≤ tk.length → Bs i = Bs j → i = j
theorem ChartIs.sets {w0 w : World} {g : Gr} {tk : List Int} {b O : Nat} {Bs : Nat → Nat} (h : ChartIs w0 g.rules tk g.nonterms.length b O Bs (fun a c => a ≤ c ∧ c ≤ tk.length) w) : ∃ Tn, SetsAt w0 g tk O Bs Tn w ∧ w.cell? ⟨b, 5, none⟩ = some (.slice (some ⟨O, 0, none⟩) (tk.length + 1) (tk.length + 1)) := by
  obtain ⟨Tn, h1, h2, h3⟩ := h
  exact ⟨Tn, ⟨h1.bel, h1.out, h1.inn, h1.lim, fun i j k hij hj hk => ⟨h2 i j k hij hj hk, h3 i j ⟨hij, hj⟩ k hk⟩, h1.hO.1, fun i hi => ⟨(h1.hB i hi).1, (h1.hB i hi).2.2⟩, h1.inj⟩, h1.head⟩
def SetsRes (w0 : World) (A : Nat → Addr) (g : Gr) (tk : List Int) (e : Ending) (w' : World) : Prop :=
  (∃ u, e = .returned (.tuple #[.slice none 0 0, u]) ∧ ¬ (mayN g tk).1 = 0 ∧ ErrV w' A u (mayN g tk).1 (mayN g tk).2 ∧ Below w0.heap.size w0 w') ∨
  (∃ O Bs Tn, e = .returned (.tuple #[.slice (some ⟨O, 0, none⟩) (tk.length + 1) (tk.length + 1), .nilIface]) ∧ (mayN g tk).1 = 0 ∧ SetsAt w0 g tk O Bs Tn w')
theorem msets_calls (v : Value) (g : Gr) (At : Option Addr) (ct : Nat) (tk : List Int) (w : World) (A : Nat → Addr) (hE : Errs w A) (hv : GramAt w v g) (hlc : tk.length ≤ ct) (hr : Kd.C (Kd.int .i64) w At tk.length tk) :
    Calls Tryd.prog 12 #[v, .slice At tk.length ct] w fun e w' => SetsRes w A g tk e w' := by
  have HV := Lib.hid hv
  obtain ⟨AT, cT, AN, cN, AR, cR, rfl, q1, q2, q3, q4, q5, q6⟩ := hv
  have hlen := hr.2.1
  obtain ⟨w1, hw1⟩ : ∃ w1, w.alloc (.cells #[.slice AT g.terms.length cT, .slice AN g.nonterms.length cN, .int .i64 g.ax, .slice AR g.rules.length cR] 25) = w1 := ⟨_, rfl⟩
  have hb1 : Below w.heap.size w w1 := by rw [← hw1]; exact below_alloc (Below.refl _ _) _
  have hk1 : w1.heap[w.heap.size]? = some (.cells #[.slice AT g.terms.length cT, .slice AN g.nonterms.length cN, .int .i64 g.ax, .slice AR g.rules.length cR] 25 (0, 0)) := by rw [← hw1]; exact heap_alloc_new w _
  obtain ⟨c0, c1, c2, c3⟩ := blk_cells2 hk1
  have HB1 := Lib.hid hb1
  have HE := Lib.hid (hE.below hb1)
  have HG := Lib.hid (HV.out.below hb1)
  have HT := Lib.hid (Kd.C_below hr hb1)
  clear hb1 hk1 hE q4 q5 q6 hr
  by_cases hok : (mayN g tk).1 = 0
  · have HM := Lib.hid (charted_calls _ g At ct tk w1 A HE.out HG.out hlc HT.out hok)
    have HOK := Lib.hid hok
    clear hok
    go_enter Tryd.func12, Tryd.ntmps12
    go_wp2_with (go_at_call 32; refine HM.out.mono ?_; rintro e w2 ⟨b, O, Bs, rfl, hc⟩; obtain ⟨Tn, hs, h5⟩ := hc.sets; have HS := Lib.hid hs; clear hc hs)
    go_ret2
    have hz := HB1.out.size
    exact .inr ⟨O, Bs, Tn, rfl, HOK.out, below_next HB1.out HS.out.bel, HS.out.out, HS.out.inn, HS.out.lim, HS.out.is, Nat.le_trans hz HS.out.hO, fun i hi => ⟨Nat.le_trans hz (HS.out.hB i hi).1, (HS.out.hB i hi).2⟩, HS.out.inj⟩
  · have HM := Lib.hid (charted_err _ g At ct tk w1 A HE.out HG.out hlc HT.out hok)
    have HOK := Lib.hid hok
    clear hok
    go_enter Tryd.func12, Tryd.ntmps12
    go_wp2_with (go_at_call 32; refine HM.out.mono ?_; rintro e w2 ⟨u, rfl, hu, hb2⟩; have HU := Lib.hid hu; have HB2 := Lib.hid hb2; obtain ⟨T, p, hT, rfl⟩ := hu.iface_of HOK.out; clear hu hb2 hT)
    go_ret2
    exact .inl ⟨_, rfl, HOK.out, HU.out, below_next HB1.out HB2.out⟩
open Classical in
/-- Which error From tells; what it answers. -/
noncomputable def fromK (g : Gr) (tk : List Int) (x : Int) : Nat := if (mayN g tk).1 ≠ 0 then (mayN g tk).1 else if x < 0 ∨ (g.nonterms.length : Int) ≤ x then 1 else 0
noncomputable def fromB (g : Gr) (tk : List Int) (x : Int) : Bool := tb (fromK g tk x = 0 ∧ Der g.rules tk x.toNat 0 tk.length)
set_option maxHeartbeats 1000000 in
set_option maxRecDepth 20000 in
theorem mfrom_calls (v : Value) (g : Gr) (At : Option Addr) (ct : Nat) (tk : List Int) (x : Int) (w : World) (A : Nat → Addr) (hE : Errs w A) (hv : GramAt w v g) (hlc : tk.length ≤ ct) (hr : Kd.C (Kd.int .i64) w At tk.length tk) :
    Calls Tryd.prog 20 #[v, .int .i64 x, .slice At tk.length ct] w fun e w' => ∃ u r, e = .returned (.tuple #[.bool (fromB g tk x), u]) ∧ ErrV w' A u (fromK g tk x) r ∧ Below w.heap.size w w' := by
  have HV := Lib.hid hv
  obtain ⟨AT, cT, AN, cN, AR, cR, rfl, q1, q2, q3, q4, q5, q6⟩ := hv
  have hlen := hr.2.1
  have l2 := q5.2.1
  obtain ⟨w1, hw1⟩ : ∃ w1, w.alloc (.cells #[.slice AT g.terms.length cT, .slice AN g.nonterms.length cN, .int .i64 g.ax, .slice AR g.rules.length cR] 25) = w1 := ⟨_, rfl⟩
  have hb1 : Below w.heap.size w w1 := by rw [← hw1]; exact below_alloc (Below.refl _ _) _
  have hk1 : w1.heap[w.heap.size]? = some (.cells #[.slice AT g.terms.length cT, .slice AN g.nonterms.length cN, .int .i64 g.ax, .slice AR g.rules.length cR] 25 (0, 0)) := by rw [← hw1]; exact heap_alloc_new w _
  obtain ⟨c0, c1, c2, c3⟩ := blk_cells2 hk1
  have HB1 := Lib.hid hb1
  have HK1 := Lib.hid hk1
  have HE := Lib.hid (hE.below hb1)
  have HG := Lib.hid (HV.out.below hb1)
  have HT := Lib.hid (Kd.C_below hr hb1)
  clear hb1 hk1 hE q4 q5 q6 hr
  by_cases hok : (mayN g tk).1 = 0
  · have HM := Lib.hid (charted_calls _ g At ct tk w1 A HE.out HG.out hlc HT.out hok)
    have hlim : tk.length ≤ 40 ∧ g.nonterms.length ≤ 60 := by
      have h := hok
      unfold mayN at h
      split at h
      · rename_i h2; exact absurd h h2
      · rename_i h0
        have hz := checkN_zero (g := g) (by simpa using h0)
        split at h
        · cases h
        · exact ⟨by omega, by have := hz.size; omega⟩
    obtain ⟨hn, hN⟩ := hlim
    have HOK := Lib.hid hok
    clear hok
    by_cases hx : x < 0 ∨ (g.nonterms.length : Int) ≤ x
    · have HF : Hid (fromK g tk x = 1 ∧ fromB g tk x = false) := Lib.hid (by
        have h1 : fromK g tk x = 1 := by unfold fromK; rw [if_neg (by simp [HOK.out]), if_pos hx]
        exact ⟨h1, tb_no (by rw [h1]; simp)⟩)
      by_cases hx0 : x < 0
      all_goals
        go_enter Tryd.func20, Tryd.ntmps20
        go_wp2_with (go_at_call 32; refine HM.out.mono ?_; rintro e w2 ⟨b, O, Bs, rfl, hc⟩; obtain ⟨Tn, hs, h5⟩ := hc.sets; have HS := Lib.hid hs; obtain ⟨d0, d1, d2, d3⟩ := blk_cells2 (gblk_keep' HK1.out hs.bel); have e0 : w2.cell? ⟨0, 0, none⟩ = some (.iface 143 (.pointer (some (A 0)))) := (HE.out.below hs.bel).cells 0 (by omega); clear hc hs)
        go_quiet (fail)
        go_wp2
        go_ret2
        exact ⟨.iface 143 (.pointer (some (A 0))), -1, by rw [HF.out.2]; rfl, by rw [HF.out.1]; exact .sent 0 (by omega), pw_below_drewN (below_next HB1.out HS.out.bel) _⟩
    · have HF : Hid (fromK g tk x = 0) := Lib.hid (by unfold fromK; rw [if_neg (by simp [HOK.out]), if_neg hx])
      have hx0 : ¬ x < 0 := by omega
      have hx1 : ¬ (g.nonterms.length : Int) ≤ x := by omega
      clear hx
      obtain ⟨n1, hn1⟩ : ∃ n1 : Nat, n1 = tk.length + 1 := ⟨_, rfl⟩
      have hlt1 : 0 < n1 := by omega
      have hlt2 : tk.length < n1 := by omega
      have HN1 := Lib.hid hn1
      clear hn1
      go_enter Tryd.func20, Tryd.ntmps20
      go_wp2_with (first
        | (go_at_call 32; refine HM.out.mono ?_; rintro e w2 ⟨b, O, Bs, rfl, hc⟩; obtain ⟨Tn, hs, h5⟩ := hc.sets; have HS := Lib.hid hs; obtain ⟨d0, d1, d2, d3⟩ := blk_cells2 (gblk_keep' HK1.out hs.bel); have a1 := hs.out.cell 0 (by omega); have a2 := (hs.inn 0 (by omega)).cell tk.length (by omega); rw [Nat.sub_zero] at a1; rw [Nat.zero_add] at a2; rw [← HN1.out] at a1 h5; have h18 : Tn 0 tk.length < 18446744073709551616 := Nat.lt_of_lt_of_le (hs.lim 0 tk.length) (Nat.le_trans (Nat.pow_le_pow_right (by decide) hN) (by decide)); have HCall := Lib.hid (fun W => has_calls (Tn 0 tk.length) h18 x W); clear hc hs h18)
        | (go_at_call 38; refine (HCall.out _).mono ?_; rintro e w' ⟨rfl, n, rfl⟩))
      go_ret2
      have hxx : ((x.toNat : Nat) : Int) = x := Int.toNat_of_nonneg (by omega)
      have hB : fromB g tk x = hasN (Tn 0 tk.length) x := by
        unfold fromB
        rw [HF.out]
        have := HS.out.is 0 tk.length x.toNat (by omega) (Nat.le_refl _) (by omega)
        unfold tabOf at this
        rw [hxx] at this
        exact (tb_bool (by rw [this]; simp)).symm
      exact ⟨.nilIface, -1, by rw [hB]; rfl, by rw [HF.out]; exact .none, pw_below_drewN (below_next HB1.out HS.out.bel) _⟩
  · have HM := Lib.hid (charted_err _ g At ct tk w1 A HE.out HG.out hlc HT.out hok)
    have HOK := Lib.hid hok
    have HF : Hid (fromK g tk x = (mayN g tk).1 ∧ fromB g tk x = false) := Lib.hid (by
      have h1 : fromK g tk x = (mayN g tk).1 := by unfold fromK; rw [if_pos hok]
      exact ⟨h1, tb_no (by rw [h1]; exact fun h => hok h.1)⟩)
    clear hok
    go_enter Tryd.func20, Tryd.ntmps20
    go_wp2_with (go_at_call 32; refine HM.out.mono ?_; rintro e w2 ⟨u, rfl, hu, hb2⟩; have HU := Lib.hid hu; have HB2 := Lib.hid hb2; obtain ⟨T, p, hT, rfl⟩ := hu.iface_of HOK.out; clear hu hb2 hT)
    go_ret2
    exact ⟨.iface T (.pointer p), _, by rw [HF.out.2]; rfl, by rw [HF.out.1]; exact HU.out, below_next HB1.out HB2.out⟩
theorem mderives_calls (v : Value) (g : Gr) (At : Option Addr) (ct : Nat) (tk : List Int) (w : World) (A : Nat → Addr) (hE : Errs w A) (hv : GramAt w v g) (hlc : tk.length ≤ ct) (hr : Kd.C (Kd.int .i64) w At tk.length tk) :
    Calls Tryd.prog 18 #[v, .slice At tk.length ct] w fun e w' => ∃ u r, e = .returned (.tuple #[.bool (fromB g tk g.ax), u]) ∧ ErrV w' A u (fromK g tk g.ax) r ∧ Below w.heap.size w w' := by
  have HV := Lib.hid hv
  obtain ⟨AT, cT, AN, cN, AR, cR, rfl, q1, q2, q3, q4, q5, q6⟩ := hv
  have hlen := hr.2.1
  obtain ⟨w1, hw1⟩ : ∃ w1, w.alloc (.cells #[.slice AT g.terms.length cT, .slice AN g.nonterms.length cN, .int .i64 g.ax, .slice AR g.rules.length cR] 25) = w1 := ⟨_, rfl⟩
  have hb1 : Below w.heap.size w w1 := by rw [← hw1]; exact below_alloc (Below.refl _ _) _
  have hk1 : w1.heap[w.heap.size]? = some (.cells #[.slice AT g.terms.length cT, .slice AN g.nonterms.length cN, .int .i64 g.ax, .slice AR g.rules.length cR] 25 (0, 0)) := by rw [← hw1]; exact heap_alloc_new w _
  obtain ⟨c0, c1, c2, c3⟩ := blk_cells2 hk1
  have HB1 := Lib.hid hb1
  have HM := Lib.hid (mfrom_calls _ g At ct tk g.ax w1 A (hE.below hb1) (HV.out.below hb1) hlc (Kd.C_below hr hb1))
  clear hb1 hk1 hE q4 q5 q6 hr
  go_enter Tryd.func18, Tryd.ntmps18
  go_wp2_with (go_at_call 20; refine HM.out.mono ?_; rintro e w2 ⟨u, r, rfl, hu, hb2⟩; have HU := Lib.hid hu; have HB2 := Lib.hid hb2; clear hu hb2)
  go_ret2
  exact ⟨u, r, rfl, HU.out, below_next HB1.out HB2.out⟩
end Go.Proofs.YtndimnomkcjeiaaDoor.Hand
