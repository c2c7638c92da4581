/- The grammar that the document names in chapter 7: what is useful of it, its shortest rows. -/
import Derived.Test.YtagcmhnanngfbaaDoorUwords
import Derived.Test.YtagcmhnanngfbaaDoorUseB
namespace Go.Proofs.YtagcmhnanngfbaaDoor.Hand
open Go.RowKit Go.Proofs.YtagcmhnanngfbaaDoorW.PrintWords Go.Proofs.YtagcmhnanngfbaaDoorW.PrintMore Go.Proofs.YtagcmhnanngfbaaDoor.Math

theorem e12 : (-1 - -2 : Int).toNat = 1 := by decide
theorem e13 : (-1 - -3 : Int).toNat = 2 := by decide
def R7 : List (Int × List Int) := [(0, [0, -2]), (0, [-3]), (0, [1]), (1, [0]), (2, [-3, 1]), (3, [0])]
def g7 : Gr := { terms := [⟨#[97]⟩, ⟨#[98]⟩], nonterms := [⟨#[83]⟩, ⟨#[65]⟩, ⟨#[66]⟩, ⟨#[67]⟩], ax := 0, rules := R7 }
theorem g7_names2 (a b : ByteArray) (h1 : a.size = 1) (h2 : b.size = 1) (h : a ≠ b) : NamesOk [a, b] := by
  intro i hi
  have : i = 0 ∨ i = 1 := by simp at hi; omega
  rcases this with rfl | rfl
  · exact ⟨by simp [h1], by simp [h1], by simp⟩
  · exact ⟨by simp [h2], by simp [h2], by simpa using fun e => h e.symm⟩
theorem ba_ne {x y : UInt8} (h : x ≠ y) : (⟨#[x]⟩ : ByteArray) ≠ ⟨#[y]⟩ := by
  intro e
  injection e with e
  have := congrArg (fun a => a[0]?) e
  simp at this
  exact h this
theorem g7_names4 (a b c d : ByteArray) (h1 : a.size = 1) (h2 : b.size = 1) (h3 : c.size = 1) (h4 : d.size = 1) (e1 : b ≠ a) (e2 : c ≠ a) (e3 : c ≠ b) (e4 : d ≠ a) (e5 : d ≠ b) (e6 : d ≠ c) : NamesOk [a, b, c, d] := by
  intro i hi
  have : i = 0 ∨ i = 1 ∨ i = 2 ∨ i = 3 := by simp at hi; omega
  rcases this with rfl | rfl | rfl | rfl
  · exact ⟨by simp [h1], by simp [h1], by simp⟩
  · exact ⟨by simp [h2], by simp [h2], by simpa using e1⟩
  · exact ⟨by simp [h3], by simp [h3], by simpa using ⟨e2, e3⟩⟩
  · exact ⟨by simp [h4], by simp [h4], by simpa using ⟨e4, e5, e6⟩⟩
theorem g7_check : checkN g7 = (0, -1) := by
  unfold checkN
  have hn1 : NamesOk g7.terms := g7_names2 _ _ rfl rfl (ba_ne (by decide))
  have hn2 : NamesOk g7.nonterms := g7_names4 _ _ _ _ rfl rfl rfl rfl (ba_ne (by decide)) (ba_ne (by decide)) (ba_ne (by decide)) (ba_ne (by decide)) (ba_ne (by decide)) (ba_ne (by decide))
  rw [if_neg (by simp [g7, R7]), if_neg (by simp [hn1, hn2]), if_neg (by simp [g7])]
  decide
theorem R7_mem {r : Int × List Int} (h : r ∈ R7) : r = (0, [0, -2]) ∨ r = (0, [-3]) ∨ r = (0, [1]) ∨ r = (1, [0]) ∨ r = (2, [-3, 1]) ∨ r = (3, [0]) := by simpa [R7] using h
theorem g7_pd0 : PD R7 0 := PD.mk (R := R7) (0, [1]) (by simp [R7]) (fun s hs h => by simp at hs; omega)
theorem g7_pd1 : PD R7 1 := PD.mk (R := R7) (1, [0]) (by simp [R7]) (fun s hs h => by simp at hs; omega)
theorem g7_pd2 : ¬ PD R7 2 := by
  intro h
  refine PD.closed (S := fun k => k ≠ 2) (fun r hr ha => ?_) h rfl
  rcases R7_mem hr with rfl | rfl | rfl | rfl | rfl | rfl
  · exact (by decide : (0 : Int).toNat ≠ 2)
  · exact (by decide : (0 : Int).toNat ≠ 2)
  · exact (by decide : (0 : Int).toNat ≠ 2)
  · exact (by decide : (1 : Int).toNat ≠ 2)
  · have h2 := ha (-3) (by simp) (by decide)
    rw [e13] at h2
    exact absurd rfl h2
  · exact (by decide : (3 : Int).toNat ≠ 2)
theorem g7_rd1 : RD R7 0 (PD R7) 1 := by
  have h : RD R7 0 (PD R7) (-1 - -2 : Int).toNat := RD.step (R := R7) (ax := 0) (I := PD R7) (0, [0, -2]) (by simp [R7]) (show RD R7 0 (PD R7) 0 from .base) (fun s hs h0 => by
    simp at hs
    rcases hs with rfl | rfl
    · omega
    · rw [e12]; exact g7_pd1) (-2) (by simp) (by decide)
  rwa [e12] at h
theorem g7_rd3 {k : Nat} (h : RD R7 0 (PD R7) k) : k < 2 := by
  refine RD.closed (S := fun k => k < 2) (by decide) (fun r hr h1 ha s hs h0 => ?_) h
  rcases R7_mem hr with rfl | rfl | rfl | rfl | rfl | rfl
  · simp at hs
    rcases hs with rfl | rfl
    · omega
    · decide
  · have h2 := ha (-3) (by simp) (by decide)
    rw [e13] at h2
    exact absurd h2 g7_pd2
  · simp at hs; omega
  · simp at hs; omega
  · exact absurd h1 (by decide)
  · simp at hs; omega
theorem g7_useful : usN g7 2 = 3 := by
  unfold usN
  rw [if_pos (by rw [g7_check])]
  have h1 : SetIs 4 3 (usP g7 2) := by
    refine ⟨by decide, fun k hk => ?_⟩
    have hr : usP g7 2 k ↔ (PD R7 k ∧ RD R7 0 (PD R7) k) := Iff.rfl
    rw [hr]
    have : k = 0 ∨ k = 1 ∨ k = 2 ∨ k = 3 := by omega
    rcases this with rfl | rfl | rfl | rfl
    · exact ⟨fun _ => ⟨g7_pd0, .base⟩, fun _ => by decide⟩
    · exact ⟨fun _ => ⟨g7_pd1, g7_rd1⟩, fun _ => by decide⟩
    · exact ⟨fun h => absurd h (by decide), fun h => absurd (g7_rd3 h.2) (by decide)⟩
    · exact ⟨fun h => absurd h (by decide), fun h => absurd (g7_rd3 h.2) (by decide)⟩
  exact (h1.of (by decide)).symm
def L7 (k : Nat) : Int := ([1, 1, -1, 1] : List Int).getD k (-1)
def W7 (k : Nat) : Option (List Int) := ([some [1], some [0], none, some [0]] : List (Option (List Int))).getD k none
theorem wd7_0 : WD R7 0 [1] := ⟨(0, [1]), by simp [R7], rfl, .tok (by decide) .nil⟩
theorem wd7_1 : WD R7 1 [0] := ⟨(1, [0]), by simp [R7], rfl, .tok (by decide) .nil⟩
theorem wd7_3 : WD R7 3 [0] := ⟨(3, [0]), by simp [R7], rfl, .tok (by decide) .nil⟩
theorem g7_len : LenIs R7 4 L7 := by
  refine LenIs.of (fun k hk => ?_) (fun i hi => ?_)
  · have : k = 0 ∨ k = 1 ∨ k = 2 ∨ k = 3 := by omega
    rcases this with rfl | rfl | rfl | rfl
    · exact ⟨by decide, by decide, fun _ => ⟨_, wd7_0, by decide⟩⟩
    · exact ⟨by decide, by decide, fun _ => ⟨_, wd7_1, by decide⟩⟩
    · exact ⟨by decide, by decide, fun h => absurd h (by decide)⟩
    · exact ⟨by decide, by decide, fun _ => ⟨_, wd7_3, by decide⟩⟩
  · have : i = 0 ∨ i = 1 ∨ i = 2 ∨ i = 3 ∨ i = 4 ∨ i = 5 := by simp [R7] at hi; omega
    unfold CRl
    rcases this with rfl | rfl | rfl | rfl | rfl | rfl <;> decide
theorem g7_word : WordIs R7 0 [1] := by
  have hS : SoundM R7 4 L7 W7 := by
    intro k hk w hw
    have : k = 0 ∨ k = 1 ∨ k = 2 ∨ k = 3 := by omega
    rcases this with rfl | rfl | rfl | rfl
    · obtain rfl : [1] = w := Option.some.inj hw
      exact ⟨wd7_0, by decide, by decide⟩
    · obtain rfl : [0] = w := Option.some.inj hw
      exact ⟨wd7_1, by decide, by decide⟩
    · cases hw
    · obtain rfl : [0] = w := Option.some.inj hw
      exact ⟨wd7_3, by decide, by decide⟩
  have hsy : ∀ r ∈ R7, ∀ z ∈ r.2, -((4 : Nat) : Int) ≤ z := by
    intro r hr z hz
    rcases R7_mem hr with rfl | rfl | rfl | rfl | rfl | rfl <;> (simp at hz; omega)
  have hc : ∀ i, i < R7.length → CRm R7 L7 W7 i := by
    intro i hi
    have : i = 0 ∨ i = 1 ∨ i = 2 ∨ i = 3 ∨ i = 4 ∨ i = 5 := by simp [R7] at hi; omega
    unfold CRm
    rcases this with rfl | rfl | rfl | rfl | rfl | rfl
    · intro _ _ q hq _
      have e : bldM L7 W7 (L7 (R7.getD 0 (0, [])).1.toNat) (some []) (R7.getD 0 (0, [])).2 = none := by decide
      rw [e] at hq; cases hq
    · intro _ _ q hq _
      have e : bldM L7 W7 (L7 (R7.getD 1 (0, [])).1.toNat) (some []) (R7.getD 1 (0, [])).2 = none := by decide
      rw [e] at hq; cases hq
    · intro _ _ q hq _
      have e : bldM L7 W7 (L7 (R7.getD 2 (0, [])).1.toNat) (some []) (R7.getD 2 (0, [])).2 = some [1] := by decide
      rw [e] at hq
      obtain rfl := Option.some.inj hq
      exact ⟨[1], rfl, by decide⟩
    · intro _ _ q hq _
      have e : bldM L7 W7 (L7 (R7.getD 3 (0, [])).1.toNat) (some []) (R7.getD 3 (0, [])).2 = some [0] := by decide
      rw [e] at hq
      obtain rfl := Option.some.inj hq
      exact ⟨[0], rfl, by decide⟩
    · intro h
      exact absurd h (by decide)
    · intro _ _ q hq _
      have e : bldM L7 W7 (L7 (R7.getD 5 (0, [])).1.toNat) (some []) (R7.getD 5 (0, [])).2 = some [0] := by decide
      rw [e] at hq
      obtain rfl := Option.some.inj hq
      exact ⟨[0], rfl, by decide⟩
  obtain ⟨u, hu, hw⟩ := CRm.least g7_len hS hsy hc (k := 0) (by decide) (by decide) (by decide)
  obtain rfl : [1] = u := Option.some.inj hu
  exact hw
theorem g7_shL : shL g7 = [1, 1, -1, 1] := by
  rw [← shL_eq (g := g7) (L := L7) (by rw [g7_check]) g7_len]
  decide
theorem g7_k0 : wdK g7 0 = 0 := by
  rw [wdK_in (by rw [g7_check]) (by decide) (by decide), ← lenF_eq (g := g7) g7_len (k := (0 : Int).toNat) (by decide)]
  decide
theorem g7_l0 : wdL g7 0 = [1] := (wdL_yes g7_k0 (q := [1]) g7_word).symm
theorem g7_k2 : wdK g7 2 = 15 := by
  rw [wdK_in (by rw [g7_check]) (by decide) (by decide), ← lenF_eq (g := g7) g7_len (k := (2 : Int).toNat) (by decide)]
  decide
theorem g7_l2 : wdL g7 2 = [] := wdL_no (by rw [g7_k2]; decide)

/-- Rules by their cells. -/
theorem rules_C {w : World} {b : Nat} {l : List (Int × List Int)} (hm : l.length ≤ 1000) (h : ∀ j r, l[j]? = some r → w.cell? ⟨b, j * 2, none⟩ = some (.int .i64 r.1) ∧ ∃ A, w.cell? ⟨b, j * 2 + 1, none⟩ = some (.slice A r.2.length r.2.length) ∧ Kd.C (Kd.int .i64) w A r.2.length r.2) : KRule.C w (some ⟨b, 0, none⟩) l.length l := by
  refine ⟨rfl, by omega, fun _ => ⟨_, rfl, fun j r hj => ?_⟩⟩
  obtain ⟨h1, A, h2, h3⟩ := h j r hj
  refine ⟨[.int .i64 r.1, .slice A r.2.length r.2.length], rfl, ⟨[.int .i64 r.1], [.slice A r.2.length r.2.length], rfl, rfl, A, r.2.length, rfl, Nat.le_refl _, h3⟩, fun i u hu => ?_⟩
  have e : ∀ i, (Addr.add ⟨b, 0, none⟩ (j * KRule.sz + i)) = ⟨b, j * 2 + i, none⟩ := by
    intro i
    rw [show KRule.sz = 2 from rfl]
    unfold Addr.add
    split
    · rename_i h0; rw [h0]
    · simp
  rw [e]
  match i, hu with
  | 0, hu => simp at hu; subst hu; exact h1
  | 1, hu => simp at hu; subst hu; exact h2
  | i + 2, hu => simp at hu
def lit7 (w : World) : World := ((((((((((w.alloc (.cells #[.string ⟨#[97]⟩, .string ⟨#[98]⟩] 9)).alloc (.cells #[.string ⟨#[83]⟩, .string ⟨#[65]⟩, .string ⟨#[66]⟩, .string ⟨#[67]⟩] 9)).alloc (.cells #[.int .i64 0, .int .i64 (-2)] 3)).alloc (.cells #[.int .i64 (-3)] 3)).alloc (.cells #[.int .i64 1] 3)).alloc (.cells #[.int .i64 0] 3)).alloc (.cells #[.int .i64 (-3), .int .i64 1] 3)).alloc (.cells #[.int .i64 0] 3)).alloc (.cells #[.int .i64 0, .slice (some ⟨w.heap.size + 1 + 1, 0, none⟩) 2 2, .int .i64 0, .slice (some ⟨w.heap.size + 1 + 1 + 1, 0, none⟩) 1 1, .int .i64 0, .slice (some ⟨w.heap.size + 1 + 1 + 1 + 1, 0, none⟩) 1 1, .int .i64 1, .slice (some ⟨w.heap.size + 1 + 1 + 1 + 1 + 1, 0, none⟩) 1 1, .int .i64 2, .slice (some ⟨w.heap.size + 1 + 1 + 1 + 1 + 1 + 1, 0, none⟩) 2 2, .int .i64 3, .slice (some ⟨w.heap.size + 1 + 1 + 1 + 1 + 1 + 1 + 1, 0, none⟩) 1 1] 56)).alloc (.cells #[.slice (some ⟨w.heap.size, 0, none⟩) 2 2, .slice (some ⟨w.heap.size + 1, 0, none⟩) 4 4, .int .i64 0, .slice (some ⟨w.heap.size + 1 + 1 + 1 + 1 + 1 + 1 + 1 + 1, 0, none⟩) 6 6] 25))
theorem lit7_is (w : World) : GramAt (lit7 w) (.agg #[.slice (some ⟨w.heap.size, 0, none⟩) 2 2, .slice (some ⟨w.heap.size + 1, 0, none⟩) 4 4, .int .i64 0, .slice (some ⟨w.heap.size + 1 + 1 + 1 + 1 + 1 + 1 + 1 + 1, 0, none⟩) 6 6]) g7 ∧ Below w.heap.size w (lit7 w) ∧ (lit7 w).heap[w.heap.size + 1 + 1 + 1 + 1 + 1 + 1 + 1 + 1 + 1]? = some (.cells #[.slice (some ⟨w.heap.size, 0, none⟩) 2 2, .slice (some ⟨w.heap.size + 1, 0, none⟩) 4 4, .int .i64 0, .slice (some ⟨w.heap.size + 1 + 1 + 1 + 1 + 1 + 1 + 1 + 1, 0, none⟩) 6 6] 25 (0, 0)) := by
  unfold lit7
  have z1 : (w.alloc (.cells #[.string ⟨#[97]⟩, .string ⟨#[98]⟩] 9)).heap.size = w.heap.size + 1 := by rw [World.size_alloc]
  have b1 := below_alloc (Below.refl w.heap.size w) (.cells #[.string ⟨#[97]⟩, .string ⟨#[98]⟩] 9)
  have c1 : Kd.C Kd.string (w.alloc (.cells #[.string ⟨#[97]⟩, .string ⟨#[98]⟩] 9)) (some ⟨w.heap.size, 0, none⟩) 2 [⟨#[97]⟩, ⟨#[98]⟩] := by
    have := lit_C (enc := Value.string) (fun _ => rfl) [⟨#[97]⟩, ⟨#[98]⟩] w 9 (by decide)
    exact this
  generalize (w.alloc (.cells #[.string ⟨#[97]⟩, .string ⟨#[98]⟩] 9)) = w1 at *
  have z2 : (w1.alloc (.cells #[.string ⟨#[83]⟩, .string ⟨#[65]⟩, .string ⟨#[66]⟩, .string ⟨#[67]⟩] 9)).heap.size = w.heap.size + 1 + 1 := by rw [World.size_alloc, z1]
  have b2 := below_alloc (Below.refl w1.heap.size w1) (.cells #[.string ⟨#[83]⟩, .string ⟨#[65]⟩, .string ⟨#[66]⟩, .string ⟨#[67]⟩] 9)
  have c2 : Kd.C Kd.string (w1.alloc (.cells #[.string ⟨#[83]⟩, .string ⟨#[65]⟩, .string ⟨#[66]⟩, .string ⟨#[67]⟩] 9)) (some ⟨w.heap.size + 1, 0, none⟩) 4 [⟨#[83]⟩, ⟨#[65]⟩, ⟨#[66]⟩, ⟨#[67]⟩] := by
    have := lit_C (enc := Value.string) (fun _ => rfl) [⟨#[83]⟩, ⟨#[65]⟩, ⟨#[66]⟩, ⟨#[67]⟩] w1 9 (by decide)
    rw [z1] at this
    exact this
  generalize (w1.alloc (.cells #[.string ⟨#[83]⟩, .string ⟨#[65]⟩, .string ⟨#[66]⟩, .string ⟨#[67]⟩] 9)) = w2 at *
  have z3 : (w2.alloc (.cells #[.int .i64 0, .int .i64 (-2)] 3)).heap.size = w.heap.size + 1 + 1 + 1 := by rw [World.size_alloc, z2]
  have b3 := below_alloc (Below.refl w2.heap.size w2) (.cells #[.int .i64 0, .int .i64 (-2)] 3)
  have c3 : Kd.C (Kd.int .i64) (w2.alloc (.cells #[.int .i64 0, .int .i64 (-2)] 3)) (some ⟨w.heap.size + 1 + 1, 0, none⟩) 2 [0, -2] := by
    have := lit_C (enc := Value.int .i64) (fun _ => rfl) [0, -2] w2 3 (by decide)
    rw [z2] at this
    exact this
  generalize (w2.alloc (.cells #[.int .i64 0, .int .i64 (-2)] 3)) = w3 at *
  have z4 : (w3.alloc (.cells #[.int .i64 (-3)] 3)).heap.size = w.heap.size + 1 + 1 + 1 + 1 := by rw [World.size_alloc, z3]
  have b4 := below_alloc (Below.refl w3.heap.size w3) (.cells #[.int .i64 (-3)] 3)
  have c4 : Kd.C (Kd.int .i64) (w3.alloc (.cells #[.int .i64 (-3)] 3)) (some ⟨w.heap.size + 1 + 1 + 1, 0, none⟩) 1 [-3] := by
    have := lit_C (enc := Value.int .i64) (fun _ => rfl) [-3] w3 3 (by decide)
    rw [z3] at this
    exact this
  generalize (w3.alloc (.cells #[.int .i64 (-3)] 3)) = w4 at *
  have z5 : (w4.alloc (.cells #[.int .i64 1] 3)).heap.size = w.heap.size + 1 + 1 + 1 + 1 + 1 := by rw [World.size_alloc, z4]
  have b5 := below_alloc (Below.refl w4.heap.size w4) (.cells #[.int .i64 1] 3)
  have c5 : Kd.C (Kd.int .i64) (w4.alloc (.cells #[.int .i64 1] 3)) (some ⟨w.heap.size + 1 + 1 + 1 + 1, 0, none⟩) 1 [1] := by
    have := lit_C (enc := Value.int .i64) (fun _ => rfl) [1] w4 3 (by decide)
    rw [z4] at this
    exact this
  generalize (w4.alloc (.cells #[.int .i64 1] 3)) = w5 at *
  have z6 : (w5.alloc (.cells #[.int .i64 0] 3)).heap.size = w.heap.size + 1 + 1 + 1 + 1 + 1 + 1 := by rw [World.size_alloc, z5]
  have b6 := below_alloc (Below.refl w5.heap.size w5) (.cells #[.int .i64 0] 3)
  have c6 : Kd.C (Kd.int .i64) (w5.alloc (.cells #[.int .i64 0] 3)) (some ⟨w.heap.size + 1 + 1 + 1 + 1 + 1, 0, none⟩) 1 [0] := by
    have := lit_C (enc := Value.int .i64) (fun _ => rfl) [0] w5 3 (by decide)
    rw [z5] at this
    exact this
  generalize (w5.alloc (.cells #[.int .i64 0] 3)) = w6 at *
  have z7 : (w6.alloc (.cells #[.int .i64 (-3), .int .i64 1] 3)).heap.size = w.heap.size + 1 + 1 + 1 + 1 + 1 + 1 + 1 := by rw [World.size_alloc, z6]
  have b7 := below_alloc (Below.refl w6.heap.size w6) (.cells #[.int .i64 (-3), .int .i64 1] 3)
  have c7 : Kd.C (Kd.int .i64) (w6.alloc (.cells #[.int .i64 (-3), .int .i64 1] 3)) (some ⟨w.heap.size + 1 + 1 + 1 + 1 + 1 + 1, 0, none⟩) 2 [-3, 1] := by
    have := lit_C (enc := Value.int .i64) (fun _ => rfl) [-3, 1] w6 3 (by decide)
    rw [z6] at this
    exact this
  generalize (w6.alloc (.cells #[.int .i64 (-3), .int .i64 1] 3)) = w7 at *
  have z8 : (w7.alloc (.cells #[.int .i64 0] 3)).heap.size = w.heap.size + 1 + 1 + 1 + 1 + 1 + 1 + 1 + 1 := by rw [World.size_alloc, z7]
  have b8 := below_alloc (Below.refl w7.heap.size w7) (.cells #[.int .i64 0] 3)
  have c8 : Kd.C (Kd.int .i64) (w7.alloc (.cells #[.int .i64 0] 3)) (some ⟨w.heap.size + 1 + 1 + 1 + 1 + 1 + 1 + 1, 0, none⟩) 1 [0] := by
    have := lit_C (enc := Value.int .i64) (fun _ => rfl) [0] w7 3 (by decide)
    rw [z7] at this
    exact this
  generalize (w7.alloc (.cells #[.int .i64 0] 3)) = w8 at *
  have z9 : (w8.alloc (.cells #[.int .i64 0, .slice (some ⟨w.heap.size + 1 + 1, 0, none⟩) 2 2, .int .i64 0, .slice (some ⟨w.heap.size + 1 + 1 + 1, 0, none⟩) 1 1, .int .i64 0, .slice (some ⟨w.heap.size + 1 + 1 + 1 + 1, 0, none⟩) 1 1, .int .i64 1, .slice (some ⟨w.heap.size + 1 + 1 + 1 + 1 + 1, 0, none⟩) 1 1, .int .i64 2, .slice (some ⟨w.heap.size + 1 + 1 + 1 + 1 + 1 + 1, 0, none⟩) 2 2, .int .i64 3, .slice (some ⟨w.heap.size + 1 + 1 + 1 + 1 + 1 + 1 + 1, 0, none⟩) 1 1] 56)).heap.size = w.heap.size + 1 + 1 + 1 + 1 + 1 + 1 + 1 + 1 + 1 := by rw [World.size_alloc, z8]
  have b9 := below_alloc (Below.refl w8.heap.size w8) (.cells #[.int .i64 0, .slice (some ⟨w.heap.size + 1 + 1, 0, none⟩) 2 2, .int .i64 0, .slice (some ⟨w.heap.size + 1 + 1 + 1, 0, none⟩) 1 1, .int .i64 0, .slice (some ⟨w.heap.size + 1 + 1 + 1 + 1, 0, none⟩) 1 1, .int .i64 1, .slice (some ⟨w.heap.size + 1 + 1 + 1 + 1 + 1, 0, none⟩) 1 1, .int .i64 2, .slice (some ⟨w.heap.size + 1 + 1 + 1 + 1 + 1 + 1, 0, none⟩) 2 2, .int .i64 3, .slice (some ⟨w.heap.size + 1 + 1 + 1 + 1 + 1 + 1 + 1, 0, none⟩) 1 1] 56)
  have c9 : ∀ q, (w8.alloc (.cells #[.int .i64 0, .slice (some ⟨w.heap.size + 1 + 1, 0, none⟩) 2 2, .int .i64 0, .slice (some ⟨w.heap.size + 1 + 1 + 1, 0, none⟩) 1 1, .int .i64 0, .slice (some ⟨w.heap.size + 1 + 1 + 1 + 1, 0, none⟩) 1 1, .int .i64 1, .slice (some ⟨w.heap.size + 1 + 1 + 1 + 1 + 1, 0, none⟩) 1 1, .int .i64 2, .slice (some ⟨w.heap.size + 1 + 1 + 1 + 1 + 1 + 1, 0, none⟩) 2 2, .int .i64 3, .slice (some ⟨w.heap.size + 1 + 1 + 1 + 1 + 1 + 1 + 1, 0, none⟩) 1 1] 56)).cell? ⟨w.heap.size + 1 + 1 + 1 + 1 + 1 + 1 + 1 + 1, q, none⟩ = (#[.int .i64 0, .slice (some ⟨w.heap.size + 1 + 1, 0, none⟩) 2 2, .int .i64 0, .slice (some ⟨w.heap.size + 1 + 1 + 1, 0, none⟩) 1 1, .int .i64 0, .slice (some ⟨w.heap.size + 1 + 1 + 1 + 1, 0, none⟩) 1 1, .int .i64 1, .slice (some ⟨w.heap.size + 1 + 1 + 1 + 1 + 1, 0, none⟩) 1 1, .int .i64 2, .slice (some ⟨w.heap.size + 1 + 1 + 1 + 1 + 1 + 1, 0, none⟩) 2 2, .int .i64 3, .slice (some ⟨w.heap.size + 1 + 1 + 1 + 1 + 1 + 1 + 1, 0, none⟩) 1 1] : Array Value)[q]? := by
    intro q
    rw [← z8]
    exact World.cell?_alloc_new _ _ _ _
  generalize (w8.alloc (.cells #[.int .i64 0, .slice (some ⟨w.heap.size + 1 + 1, 0, none⟩) 2 2, .int .i64 0, .slice (some ⟨w.heap.size + 1 + 1 + 1, 0, none⟩) 1 1, .int .i64 0, .slice (some ⟨w.heap.size + 1 + 1 + 1 + 1, 0, none⟩) 1 1, .int .i64 1, .slice (some ⟨w.heap.size + 1 + 1 + 1 + 1 + 1, 0, none⟩) 1 1, .int .i64 2, .slice (some ⟨w.heap.size + 1 + 1 + 1 + 1 + 1 + 1, 0, none⟩) 2 2, .int .i64 3, .slice (some ⟨w.heap.size + 1 + 1 + 1 + 1 + 1 + 1 + 1, 0, none⟩) 1 1] 56)) = w9 at *
  have z10 : (w9.alloc (.cells #[.slice (some ⟨w.heap.size, 0, none⟩) 2 2, .slice (some ⟨w.heap.size + 1, 0, none⟩) 4 4, .int .i64 0, .slice (some ⟨w.heap.size + 1 + 1 + 1 + 1 + 1 + 1 + 1 + 1, 0, none⟩) 6 6] 25)).heap.size = w.heap.size + 1 + 1 + 1 + 1 + 1 + 1 + 1 + 1 + 1 + 1 := by rw [World.size_alloc, z9]
  have b10 := below_alloc (Below.refl w9.heap.size w9) (.cells #[.slice (some ⟨w.heap.size, 0, none⟩) 2 2, .slice (some ⟨w.heap.size + 1, 0, none⟩) 4 4, .int .i64 0, .slice (some ⟨w.heap.size + 1 + 1 + 1 + 1 + 1 + 1 + 1 + 1, 0, none⟩) 6 6] 25)
  have c10 : (w9.alloc (.cells #[.slice (some ⟨w.heap.size, 0, none⟩) 2 2, .slice (some ⟨w.heap.size + 1, 0, none⟩) 4 4, .int .i64 0, .slice (some ⟨w.heap.size + 1 + 1 + 1 + 1 + 1 + 1 + 1 + 1, 0, none⟩) 6 6] 25)).heap[w.heap.size + 1 + 1 + 1 + 1 + 1 + 1 + 1 + 1 + 1]? = some (.cells #[.slice (some ⟨w.heap.size, 0, none⟩) 2 2, .slice (some ⟨w.heap.size + 1, 0, none⟩) 4 4, .int .i64 0, .slice (some ⟨w.heap.size + 1 + 1 + 1 + 1 + 1 + 1 + 1 + 1, 0, none⟩) 6 6] 25 (0, 0)) := by rw [← z9]; exact heap_alloc_new _ _
  generalize (w9.alloc (.cells #[.slice (some ⟨w.heap.size, 0, none⟩) 2 2, .slice (some ⟨w.heap.size + 1, 0, none⟩) 4 4, .int .i64 0, .slice (some ⟨w.heap.size + 1 + 1 + 1 + 1 + 1 + 1 + 1 + 1, 0, none⟩) 6 6] 25)) = w10 at *
  have h10 := b10
  have h9 := below_next b9 h10
  have h8 := below_next b8 h9
  have h7 := below_next b7 h8
  have h6 := below_next b6 h7
  have h5 := below_next b5 h6
  have h4 := below_next b4 h5
  have h3 := below_next b3 h4
  have h2 := below_next b2 h3
  have h1 := below_next b1 h2
  have d1 := Kd.C_below c1 h2
  have d2 := Kd.C_below c2 h3
  have d3 := Kd.C_below c3 h4
  have d4 := Kd.C_below c4 h5
  have d5 := Kd.C_below c5 h6
  have d6 := Kd.C_below c6 h7
  have d7 := Kd.C_below c7 h8
  have d8 := Kd.C_below c8 h9
  have d9 : ∀ q v, (#[.int .i64 0, .slice (some ⟨w.heap.size + 1 + 1, 0, none⟩) 2 2, .int .i64 0, .slice (some ⟨w.heap.size + 1 + 1 + 1, 0, none⟩) 1 1, .int .i64 0, .slice (some ⟨w.heap.size + 1 + 1 + 1 + 1, 0, none⟩) 1 1, .int .i64 1, .slice (some ⟨w.heap.size + 1 + 1 + 1 + 1 + 1, 0, none⟩) 1 1, .int .i64 2, .slice (some ⟨w.heap.size + 1 + 1 + 1 + 1 + 1 + 1, 0, none⟩) 2 2, .int .i64 3, .slice (some ⟨w.heap.size + 1 + 1 + 1 + 1 + 1 + 1 + 1, 0, none⟩) 1 1] : Array Value)[q]? = some v → w10.cell? ⟨w.heap.size + 1 + 1 + 1 + 1 + 1 + 1 + 1 + 1, q, none⟩ = some v := fun q v hv => (h10.cell (World.block_lt_of_cell? _ _ ((c9 q).trans hv))).trans ((c9 q).trans hv)
  refine ⟨⟨_, 2, _, 4, _, 6, rfl, by decide, by decide, by decide, d1, d2, ?_⟩, h1, c10⟩
  refine rules_C (l := R7) (by decide) (fun j r hj => ?_)
  match j, hj with
  | 0, hj => obtain rfl : (0, [0, -2]) = r := Option.some.inj hj; exact ⟨d9 0 _ rfl, _, d9 1 _ rfl, d3⟩
  | 1, hj => obtain rfl : (0, [-3]) = r := Option.some.inj hj; exact ⟨d9 2 _ rfl, _, d9 3 _ rfl, d4⟩
  | 2, hj => obtain rfl : (0, [1]) = r := Option.some.inj hj; exact ⟨d9 4 _ rfl, _, d9 5 _ rfl, d5⟩
  | 3, hj => obtain rfl : (1, [0]) = r := Option.some.inj hj; exact ⟨d9 6 _ rfl, _, d9 7 _ rfl, d6⟩
  | 4, hj => obtain rfl : (2, [-3, 1]) = r := Option.some.inj hj; exact ⟨d9 8 _ rfl, _, d9 9 _ rfl, d7⟩
  | 5, hj => obtain rfl : (3, [0]) = r := Option.some.inj hj; exact ⟨d9 10 _ rfl, _, d9 11 _ rfl, d8⟩
  | j + 6, hj => simp [R7] at hj
set_option maxHeartbeats 2000000 in
set_option maxRecDepth 20000 in
theorem known_calls (w : World) (A : Nat → Addr) (hE : Errs w A) :
    Calls Tryd.prog 25 #[] w fun e w' => e = .returned (.bool true) ∧ Below w.heap.size w w' := by
  obtain ⟨hg, hb, hk⟩ := lit7_is w
  have HG1 := Lib.hid hg
  have HB1 := Lib.hid hb
  have HK1 := Lib.hid hk
  have HE1 := Lib.hid (hE.below hb)
  clear hE hg hb hk
  go_enter Tryd.func25, Tryd.ntmps25
  go_upto_region 2 with fail
  rw [show (((((((((w.alloc (.cells #[.string ⟨#[97]⟩, .string ⟨#[98]⟩] 9)).alloc (.cells #[.string ⟨#[83]⟩, .string ⟨#[65]⟩, .string ⟨#[66]⟩, .string ⟨#[67]⟩] 9)).alloc (.cells #[.int .i64 0, .int .i64 (-2)] 3)).alloc (.cells #[.int .i64 (-3)] 3)).alloc (.cells #[.int .i64 1] 3)).alloc (.cells #[.int .i64 0] 3)).alloc (.cells #[.int .i64 (-3), .int .i64 1] 3)).alloc (.cells #[.int .i64 0] 3)).alloc (.cells #[.int .i64 0, .slice (some ⟨w.heap.size + 1 + 1, 0, none⟩) 2 2, .int .i64 0, .slice (some ⟨w.heap.size + 1 + 1 + 1, 0, none⟩) 1 1, .int .i64 0, .slice (some ⟨w.heap.size + 1 + 1 + 1 + 1, 0, none⟩) 1 1, .int .i64 1, .slice (some ⟨w.heap.size + 1 + 1 + 1 + 1 + 1, 0, none⟩) 1 1, .int .i64 2, .slice (some ⟨w.heap.size + 1 + 1 + 1 + 1 + 1 + 1, 0, none⟩) 2 2, .int .i64 3, .slice (some ⟨w.heap.size + 1 + 1 + 1 + 1 + 1 + 1 + 1, 0, none⟩) 1 1] 56)).alloc (.cells #[.slice (some ⟨w.heap.size, 0, none⟩) 2 2, .slice (some ⟨w.heap.size + 1, 0, none⟩) 4 4, .int .i64 0, .slice (some ⟨w.heap.size + 1 + 1 + 1 + 1 + 1 + 1 + 1 + 1, 0, none⟩) 6 6] 25) = lit7 w from rfl]
  obtain ⟨w1, hw1⟩ : ∃ w1, lit7 w = w1 := ⟨_, rfl⟩
  rw [hw1] at HG1 HB1 HK1 HE1 ⊢
  obtain ⟨bT, e0⟩ : ∃ b, w.heap.size = b := ⟨_, rfl⟩
  rw [e0] at HG1 HK1 ⊢
  obtain ⟨bG, e1⟩ : ∃ b, bT + 1 + 1 + 1 + 1 + 1 + 1 + 1 + 1 + 1 = b := ⟨_, rfl⟩
  rw [e1] at HK1 ⊢
  obtain ⟨bR, e2⟩ : ∃ b, bT + 1 + 1 + 1 + 1 + 1 + 1 + 1 + 1 = b := ⟨_, rfl⟩
  rw [e2] at HG1 HK1 ⊢
  obtain ⟨bN, e3⟩ : ∃ b, bT + 1 = b := ⟨_, rfl⟩
  rw [e3] at HG1 HK1 ⊢
  have E0 := Lib.hid e0
  clear hw1 e0 e1 e2 e3
  obtain ⟨c0, c1, c2, c3⟩ := blk_cells2 HK1.out
  go_upto_region 6 with (first
    | (go_at_call 13; refine (uUseful_calls _ g7 w1 A HE1.out HG1.out).mono ?_; rintro e w2 ⟨u2, r2, rfl, hu2, hb2⟩; have HU2 := Lib.hid hu2; have HB2 := Lib.hid hb2; rw [g7_check] at hu2; obtain rfl := hu2.nil_of rfl; obtain ⟨d0, d1, d2, d3⟩ := blk_cells2 (gblk_keep' HK1.out hb2); rw [g7_useful]; clear hu2 hb2 c0 c1 c2 c3)
    | (go_at_call 17; refine (ushortL_calls _ g7 w2 A (HE1.out.below HB2.out) (HG1.out.below HB2.out)).mono ?_; rintro e w3 ⟨B3, n3, u3, r3, rfl, hc3, hu3, hb3⟩; rw [g7_shL] at hc3 ⊢; rw [g7_check] at hu3; have HC3 := Lib.hid hc3; have HB3 := Lib.hid (below_next HB2.out hb3); obtain rfl := hu3.nil_of rfl; obtain ⟨e0, e1, e2, e3⟩ := blk_cells2 (gblk_keep' HK1.out HB3.out); clear hu3 hb3 hc3 d0 d1 d2 d3)
    | (go_at_call 19; refine (uwordL_calls _ g7 2 w4 A (HE1.out.below HB4.out) (HG1.out.below HB4.out)).mono ?_; rintro e w5 ⟨B5, n5, u5, r5, rfl, hc5, hu5, hb5⟩; rw [g7_l2] at hc5 ⊢; rw [g7_k2] at hu5; have HU5 := Lib.hid hu5; have P5 := Lib.hid (below_next P4.out hb5); have Q5 := Lib.hid hb5; have HB5 := Lib.hid (below_next HB4.out hb5); clear hu5 hb5 hc5 d0 d1 d2 d3)
    | (go_at_call 19; refine (uwordL_calls _ g7 0 w3 A (HE1.out.below HB3.out) (HG1.out.below HB3.out)).mono ?_; rintro e w4 ⟨B4, n4, u4, r4, rfl, hc4, hu4, hb4⟩; rw [g7_l0] at hc4 ⊢; rw [g7_k0] at hu4; have HC4 := Lib.hid hc4; have P4 := Lib.hid hb4; have HB4 := Lib.hid (below_next HB3.out hb4); obtain rfl := hu4.nil_of rfl; obtain ⟨d0, d1, d2, d3⟩ := blk_cells2 (gblk_keep' HK1.out HB4.out); clear hu4 hb4 hc4 e0 e1 e2 e3))
  have HI1 := Lib.hid (fun (W : World) (hW : Below w5.heap.size w5 W) => ints_same B3 (some ⟨W.heap.size, 0, none⟩) n3 4 [1, 1, -1, 1] (W.alloc (.cells #[.int .i64 1, .int .i64 1, .int .i64 (-1), .int .i64 1] 3)) (Kd.C_below (Kd.C_below (Kd.C_below HC3.out P5.out) hW) (below_alloc (Below.refl _ _) _)) (lit_C (enc := Value.int .i64) (fun _ => rfl) [1, 1, -1, 1] W 3 (by decide)))
  have HI2 := Lib.hid (fun (W : World) (hW : Below w5.heap.size w5 W) => ints_same B4 (some ⟨W.heap.size, 0, none⟩) n4 1 [1] (W.alloc (.cells #[.int .i64 1] 3)) (Kd.C_below (Kd.C_below (Kd.C_below HC4.out Q5.out) hW) (below_alloc (Below.refl _ _) _)) (lit_C (enc := Value.int .i64) (fun _ => rfl) [1] W 3 (by decide)))
  go_wp2_with (first
    | (go_at_call 15; refine (kind_calls (HE1.out.below (below_next HB5.out R7.out)) (HU5.out.below R7.out)).mono ?_; rintro e w8 ⟨rfl, hb8⟩; have HB8 := Lib.hid (below_next (below_next HB5.out R7.out) hb8); clear hb8)
    | (go_at_call 21; refine (HI2.out w6 R6.out).mono ?_; rintro e w7 ⟨rfl, n1, hw⟩; have R7 := Lib.hid (show Below w5.heap.size w5 w7 by rw [hw]; exact pw_below_drewN (below_alloc R6.out _) _); clear hw)
    | (go_at_call 21; refine (HI1.out w5 (Below.refl _ _)).mono ?_; rintro e w6 ⟨rfl, n1, hw⟩; have R6 := Lib.hid (show Below w5.heap.size w5 w6 by rw [hw]; exact pw_below_drewN (below_alloc (Below.refl _ _) _) _); clear hw))
  go_ret
  exact ⟨rfl, below_next HB1.out HB8.out⟩
end Go.Proofs.YtagcmhnanngfbaaDoor.Hand
