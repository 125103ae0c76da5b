/- The walk of DriftGrows: it returns true whatever the numbers are; ahead of it the plain laws on clocks that it asks. -/
import Derived.Test.YticnklmpplicfaaL1
namespace Go.Proofs.Yticnklmpplicfaa
open Go.RowKit

/-- The numbers of the theorem are in their ranges. -/
structure GrowIn (A S R late later : Int) : Prop where
  b : CkB A S R
  a : A ≤ 549755813888
  s : S ≤ 549755813888
  l0 : 0 ≤ late
  l1 : late ≤ later
  l2 : later ≤ 274877906944

theorem mul_split (R a b : Int) : R * b = R * a + R * (b - a) := by rw [← Int.mul_add]; congr 1; omega

theorem showV_ok {A S R t : Int} (h : showE A S R t = 0) : showV A S R t = val A S R t := by simp [showV, h]

/-- The time shown p seconds after the base. -/
theorem show_after {A S R p : Int} (hB : CkB A S R) (ha : A ≤ 549755813888) (hs : S ≤ 549755813888) (h0 : 0 ≤ p) (h1 : p ≤ 274877906944) :
    showE A S R (A + p) = 0 ∧ showV A S R (A + p) = S + p + R * p / 1000000 ∧ 0 ≤ showV A S R (A + p) ∧ showV A S R (A + p) ≤ 1099511627776 := by
  obtain ⟨a0, a1, s0, s1, r0, r1⟩ := hB
  have x1 : -100000 * p ≤ R * p := Int.mul_le_mul_of_nonneg_right r0 h0
  have x2 : R * p ≤ 100000 * p := Int.mul_le_mul_of_nonneg_right r1 h0
  have hv : val A S R (A + p) = S + p + R * p / 1000000 := by unfold val; rw [show A + p - A = p by omega]
  have hr : reachE A (A + p) = 0 := reachE_ok (inB_iff.2 ⟨by omega, by omega⟩) (by omega)
  have hi : inB 0 1099511627776 (val A S R (A + p)) = true := inB_iff.2 (by rw [hv]; omega)
  have he : showE A S R (A + p) = 0 := by simp [showE, hr, hi]
  have hsv : showV A S R (A + p) = S + p + R * p / 1000000 := by simp only [showV, he, if_true, hv]
  exact ⟨he, hsv, by omega, by omega⟩

theorem grow_le {A S R late later : Int} (h : GrowIn A S R late later) : showV A S R (A + late) ≤ showV A S R (A + later) := by
  obtain ⟨_, e1, _, _⟩ := show_after h.b h.a h.s h.l0 (by have := h.l1; have := h.l2; omega)
  obtain ⟨_, e2, _, _⟩ := show_after h.b h.a h.s (show 0 ≤ later by have := h.l0; have := h.l1; omega) h.l2
  have x1 : -100000 * (later - late) ≤ R * (later - late) := Int.mul_le_mul_of_nonneg_right h.b.r0 (by have := h.l1; omega)
  have x2 := mul_split R late later
  have := h.l1
  omega

theorem grow_zero {A S late later : Int} (h : GrowIn A S 0 late later) : showV A S 0 (A + later) - showV A S 0 (A + late) = later - late := by
  obtain ⟨_, e1, _, _⟩ := show_after h.b h.a h.s h.l0 (by have := h.l1; have := h.l2; omega)
  obtain ⟨_, e2, _, _⟩ := show_after h.b h.a h.s (show 0 ≤ later by have := h.l0; have := h.l1; omega) h.l2
  omega

/-- The clock rebased at the third time. -/
theorem grow_base {A S R late later : Int} (h : GrowIn A S R late later) : CkB (A + late) (showV A S R (A + late)) R ∧ showE (A + late) (showV A S R (A + late)) R (A + later) = 0 ∧
    showV (A + late) (showV A S R (A + late)) R (A + later) ≤ showV A S R (A + later) ∧ showV A S R (A + later) - 1 ≤ showV (A + late) (showV A S R (A + late)) R (A + later) := by
  obtain ⟨_, e1, v0, v1⟩ := show_after h.b h.a h.s h.l0 (by have := h.l1; have := h.l2; omega)
  obtain ⟨_, e2, v2, v3⟩ := show_after h.b h.a h.s (show 0 ≤ later by have := h.l0; have := h.l1; omega) h.l2
  have hb : CkB (A + late) (showV A S R (A + late)) R := ⟨by have := h.b.a0; have := h.l0; omega, by have := h.a; have := h.l1; have := h.l2; omega, v0, v1, h.b.r0, h.b.r1⟩
  have x1 : -100000 * (later - late) ≤ R * (later - late) := Int.mul_le_mul_of_nonneg_right h.b.r0 (by have := h.l1; omega)
  have x3 : R * (later - late) ≤ 100000 * (later - late) := Int.mul_le_mul_of_nonneg_right h.b.r1 (by have := h.l1; omega)
  have x2 := mul_split R late later
  have h0 := h.b.a0
  have h1 := h.a
  have h2 := h.s
  have h3 := h.l0
  have h4 := h.l1
  have h5 := h.l2
  have hs0 := h.b.s0
  have x4 : -100000 * later ≤ R * later := Int.mul_le_mul_of_nonneg_right h.b.r0 (by omega)
  have x5 : R * later ≤ 100000 * later := Int.mul_le_mul_of_nonneg_right h.b.r1 (by omega)
  have hv : val (A + late) (showV A S R (A + late)) R (A + later) = showV A S R (A + late) + (later - late) + R * (later - late) / 1000000 := by
    unfold val; rw [show A + later - (A + late) = later - late by omega]
  have hr : reachE (A + late) (A + later) = 0 := reachE_ok (inB_iff.2 ⟨by omega, by omega⟩) (by omega)
  have hi : inB 0 1099511627776 (val (A + late) (showV A S R (A + late)) R (A + later)) = true := inB_iff.2 (by rw [hv]; omega)
  have he : showE (A + late) (showV A S R (A + late)) R (A + later) = 0 := by simp [showE, hr, hi]
  have hsv : showV (A + late) (showV A S R (A + late)) R (A + later) = showV A S R (A + late) + (later - late) + R * (later - late) / 1000000 := (showV_ok he).trans hv
  exact ⟨hb, he, by omega, by omega⟩

/-- What Exceeds can answer from the base on. -/
theorem exR_base {A S R skew v c : Int} (hB : CkB A S R) (h : ExR A S R A skew v c) :
    (c = 2 ∧ skew < 0) ∨ (c = 9 ∧ 0 ≤ skew) ∨ (c = 0 ∧ 0 ≤ skew ∧ A ≤ v ∧ v ≤ 1099511627776 ∧ exB A S R skew v = true ∧ (A < v → exB A S R skew (v - 1) = false)) := by
  have hr : reachE A A = 0 := reachE_ok (inB_iff.2 ⟨hB.a0, hB.a1⟩) (by omega)
  rcases h with ⟨h1, rfl, rfl⟩ | ⟨h1, h2, rfl, rfl⟩ | ⟨h1, h2, h3, rfl, rfl⟩ | ⟨h1, h2, h3, h4, rfl, rfl⟩ | ⟨h1, h2, h3, h4, h5, h6, h7, rfl⟩
  · exact .inl ⟨rfl, h1⟩
  · exact absurd hr h2
  · exact .inr (.inr ⟨rfl, h1, by omega, hB.a1, h3, fun h => by omega⟩)
  · exact .inr (.inl ⟨rfl, h1⟩)
  · refine .inr (.inr ⟨rfl, h1, by omega, h6, ?_, fun _ => ?_⟩)
    · rw [h7 v (by omega) h6]; simp
    · rw [h7 (v - 1) (by omega) (by omega)]; simp; omega

/-- The test of the deviation at the time of the excess, and one second before. -/
theorem ex_dev {A S R skew t : Int} (he : showE A S R t = 0) : devV A S R t = val A S R t - t ∧ (exB A S R skew t = true ↔ (skew < devV A S R t ∨ skew < -(devV A S R t))) ∧ -1099511627776 ≤ devV A S R t ∧ devV A S R t ≤ 1099511627776 := by
  obtain ⟨t0, t1, t2, v0, v1, hv⟩ := showE_ok he
  have hd : devV A S R t = val A S R t - t := by simp [devV, he]
  refine ⟨hd, ?_, by omega, by omega⟩
  rw [hd]
  simp only [exB, Bool.not_eq_true', inB_f]
  omega

theorem set_ok (g : Nat) (A S R late later : Int) (w : World) (hk : Clk w g A S R) (h : GrowIn A S R late later) :
    Calls Try.prog 19 #[.pointer (some ⟨g, 0, none⟩), .int .i64 (A + late), .int .i64 R] w fun e w' =>
      e = .returned (.int .i64 0) ∧ Clk w' g (A + late) (showV A S R (A + late)) R ∧ w.grownBy w' (some g) := by
  have hR : inB (-100000) 100000 R = true := inB_iff.2 ⟨h.b.r0, h.b.r1⟩
  obtain ⟨e1, _, _, _⟩ := show_after h.b h.a h.s h.l0 (by have := h.l1; have := h.l2; omega)
  have he : setE A S R (A + late) R = 0 := by simp [setE, hR, e1]
  have hh := set_any g A S R (A + late) R w hk h.b
  simp only [setA, setS, setR, he, if_true] at hh
  exact hh


set_option maxRecDepth 100000 in
/-- There is no clock. -/
theorem grows_bad (A S R late later skew : Int) (w : World) (hn : newOk A S R = false) :
    Calls Try.prog 5 #[.int .i64 A, .int .i64 S, .int .i64 R, .int .i64 late, .int .i64 later, .int .i64 skew] w (RetB w (.bool true)) := by
  go_enter Try.func5, Try.ntmps5
  go_wp2_with fail
  refine (new_bad _ _ _ _ hn).mono ?_; rintro e w1 ⟨rfl, hb1⟩
  go_wp2_with fail
  refine (known47 _).mono ?_; rintro e w3 ⟨rfl, hb3⟩
  go_wp2_with fail
  go_ret
  exact .bool rfl (below_trans hb1 hb3)

set_option maxRecDepth 100000 in
set_option maxHeartbeats 1600000 in
theorem grows_out (A S R late later skew : Int) (w : World) (hn : newOk A S R = true)
    (h : 549755813888 < A ∨ (A ≤ 549755813888 ∧ 549755813888 < S) ∨ (A ≤ 549755813888 ∧ S ≤ 549755813888 ∧ late < 0) ∨ (A ≤ 549755813888 ∧ S ≤ 549755813888 ∧ 0 ≤ late ∧ later < late) ∨ (A ≤ 549755813888 ∧ S ≤ 549755813888 ∧ 0 ≤ late ∧ late ≤ later ∧ 274877906944 < later)) :
    Calls Try.prog 5 #[.int .i64 A, .int .i64 S, .int .i64 R, .int .i64 late, .int .i64 later, .int .i64 skew] w (RetB w (.bool true)) := by
  rcases h with h1 | ⟨h1, h2⟩ | ⟨h1, h2, h3⟩ | ⟨h1, h2, h3, h4⟩ | ⟨h1, h2, h3, h4, h5⟩
  all_goals
    go_enter Try.func5, Try.ntmps5
    go_wp2_with fail
    refine (new_ok _ _ _ _ hn).mono ?_; rintro e w1 ⟨g, rfl, hg, hk1, hb1⟩
    go_wp2_with fail
    refine (known47 _).mono ?_; rintro e w3 ⟨rfl, hb3⟩
    go_wp2_with fail
    go_ret
    exact .bool rfl (below_trans hb1 hb3)


def Copied (W : World) (A S R : Int) (e : Ending) (w' : World) : Prop :=
  ∃ d, e = .returned (.pointer (some ⟨d, 0, none⟩)) ∧ W.heap.size ≤ d ∧ Clk w' d A S R ∧ Below W.heap.size W w'
theorem copy_ex (g : Nat) (A S R : Int) (w : World) (hk : Clk w g A S R) : Calls Try.prog 18 #[.pointer (some ⟨g, 0, none⟩)] w (Copied w A S R) :=
  (copy_any g A S R w hk).mono fun _ _ h => ⟨_, h.1, Nat.le_refl _, h.2.1, h.2.2⟩
theorem Clk.only {w w' : World} {g g' : Nat} {A S R : Int} (h : Clk w g A S R) (hg : w.grownBy w' (some g')) (hne : g ≠ g') : Clk w' g A S R :=
  (hg.block g h.lt (fun e => hne (by injection e))).trans h
theorem int_of_beq {a b : Int} (h : (a == b) = true) : a = b := by simpa using h

set_option maxRecDepth 100000 in
set_option maxHeartbeats 6400000 in
theorem grows_in (A S R late later skew : Int) (w : World) (hn : newOk A S R = true) (hG : GrowIn A S R late later) (hk1 : skew ≤ 9223372036854775807) :
    Calls Try.prog 5 #[.int .i64 A, .int .i64 S, .int .i64 R, .int .i64 late, .int .i64 later, .int .i64 skew] w (RetB w (.bool true)) := by
  have hB := hG.b
  have a0 := hB.a0
  have a1 := hG.a
  have s1 := hG.s
  have l0 := hG.l0
  have l1 := hG.l1
  have l2 := hG.l2
  obtain ⟨e1, -, v0, v1⟩ := show_after hB a1 s1 l0 (by omega)
  obtain ⟨e2, -, v2, v3⟩ := show_after hB a1 s1 (show 0 ≤ later by omega) l2
  have hle := grow_le hG
  obtain ⟨hB', e3, x1, x2⟩ := grow_base hG
  obtain ⟨v, c, hx⟩ := exR_total A S R A skew
  have hcs := exR_base hB hx
  have HX := Lib.hid hx
  have HC := Lib.hid hcs
  have HN := Lib.hid hn
  clear hx hcs hn
  rcases hR : (R == 0) with _ | _
  · go_enter Try.func5, Try.ntmps5
    go_wp2_with fail
    refine (new_ok _ _ _ _ HN.out).mono ?_; rintro e w1 ⟨g, rfl, hg, hk1, hb1⟩
    go_wp2_with fail
    refine (show_any _ _ _ _ _ _ hk1 hB).mono ?_; rintro e w2 ⟨rfl, hb2⟩
    have hk2 := hk1.below hb2
    go_wp2_with fail
    refine (show_any _ _ _ _ _ _ hk2 hB).mono ?_; rintro e w3 ⟨rfl, hb3⟩
    have hk3 := hk2.below hb3
    have hb := below_trans (below_trans hb1 hb2) hb3
    clear hb1 hb2 hb3 hk1 hk2
    go_wp2_with fail
    refine (copy_ex _ _ _ _ _ hk3).mono ?_; rintro e w4 ⟨d, rfl, hd, hd4, hb4⟩
    have hk4 := hk3.below hb4
    have hgd : g ≠ d := by have := hk3.lt; omega
    have hwd : w.heap.size ≤ d := by have := hb.size; omega
    have hb := below_trans hb hb4
    clear hb4
    go_wp2_with fail
    refine (set_ok _ _ _ _ _ _ _ hd4 hG).mono ?_; rintro e w5 ⟨rfl, hd5, hg5⟩
    have hk5 := hk4.only hg5 hgd
    have hb := below_only hb hg5 hwd
    clear hg5 hd4 hk4 hk3
    go_wp2_with fail
    refine (show_any _ _ _ _ _ _ hd5 hB').mono ?_; rintro e w6 ⟨rfl, hb6⟩
    have hk5 := hk5.below hb6
    have hb := below_trans hb hb6
    clear hb6 hd5
    go_wp2_with fail
    refine (exceeds_any _ _ _ _ _ _ _ _ _ hk5 hB hk1 HX.out).mono ?_; rintro e w6a ⟨rfl, hb6a⟩
    have hk5 := hk5.below hb6a
    have hb := below_trans hb hb6a
    clear hb6a
    rcases HC.out with ⟨h1, h2⟩ | ⟨h1, h2⟩ | ⟨h1, h2, h3, h4, h5x, h6⟩
    · have z1 : (c != 0) = true := by simp [h1]
      have z2 : (c == 9) = false := by simp [h1]
      have z3 : (c == 2) = true := by simp [h1]
      clear h1
      go_wp2_with fail
      refine (known47 _).mono ?_; rintro e w20 ⟨rfl, hb20⟩
      go_wp2_with fail
      go_ret
      exact .bool rfl (below_trans hb hb20)
    · have z1 : (c != 0) = true := by simp [h1]
      have z2 : (c == 9) = true := by simp [h1]
      clear h1
      go_wp2_with fail
      refine (known47 _).mono ?_; rintro e w20 ⟨rfl, hb20⟩
      go_wp2_with fail
      go_ret
      exact .bool rfl (below_trans hb hb20)
    · have z1 : (c != 0) = false := by simp [h1]
      clear h1
      have h5 : A ≤ v ∧ (A < v → exB A S R skew (v - 1) = false) := ⟨h3, h6⟩
      have H5 := Lib.hid h5
      clear h6 h5
      by_cases hz : showE A S R v = 0
      · obtain ⟨-, hex, d0, d1⟩ := ex_dev (skew := skew) hz
        have ho := hex.1 h5x
        have z2 : (showE A S R v == 0) = true := by simp [hz]
        clear hz hex h5x
        by_cases ho1 : skew < devV A S R v
        · clear ho
          go_wp2_with fail
          refine (dev_any _ _ _ _ _ _ hk5 hB).mono ?_; rintro e w7 ⟨rfl, hb7⟩
          have hk6 := hk5.below hb7
          have hb := below_trans hb hb7
          have h5 := H5.out
          by_cases hva : A < v
          · have hx9 := h5.2 hva
            have HX9 := Lib.hid hx9
            clear hx9
            by_cases hz9 : showE A S R (v - 1) = 0
            · obtain ⟨-, hex9, d2, d3⟩ := ex_dev (skew := skew) hz9
              have hn9 : ¬ (skew < devV A S R (v - 1) ∨ skew < -(devV A S R (v - 1))) := fun h => by have := hex9.2 h; rw [HX9.out] at this; cases this
              have hn1 : devV A S R (v - 1) ≤ skew := by omega
              have hn2 : -(devV A S R (v - 1)) ≤ skew := by omega
              have z9 : (showE A S R (v - 1) == 0) = true := by simp [hz9]
              clear hz9 hex9 hn9
              go_wp2_with fail
              refine (dev_any _ _ _ _ _ _ hk6 hB).mono ?_; rintro e w8 ⟨rfl, hb8⟩
              have hb := below_trans hb hb8
              go_wp2_with fail
              refine (known47 _).mono ?_; rintro e w20 ⟨rfl, hb20⟩
              go_wp2_with fail
              go_ret
              exact .bool rfl (below_trans hb hb20)
            · have z9 : (showE A S R (v - 1) == 0) = false := by simpa using hz9
              clear hz9
              go_wp2_with fail
              refine (dev_any _ _ _ _ _ _ hk6 hB).mono ?_; rintro e w8 ⟨rfl, hb8⟩
              have hb := below_trans hb hb8
              go_wp2_with fail
              refine (known47 _).mono ?_; rintro e w20 ⟨rfl, hb20⟩
              go_wp2_with fail
              go_ret
              exact .bool rfl (below_trans hb hb20)
          · go_wp2_with fail
            refine (known47 _).mono ?_; rintro e w20 ⟨rfl, hb20⟩
            go_wp2_with fail
            go_ret
            exact .bool rfl (below_trans hb hb20)
        · have ho2 : skew < -(devV A S R v) := by omega
          clear ho
          go_wp2_with fail
          refine (dev_any _ _ _ _ _ _ hk5 hB).mono ?_; rintro e w7 ⟨rfl, hb7⟩
          have hk6 := hk5.below hb7
          have hb := below_trans hb hb7
          have h5 := H5.out
          by_cases hva : A < v
          · have hx9 := h5.2 hva
            have HX9 := Lib.hid hx9
            clear hx9
            by_cases hz9 : showE A S R (v - 1) = 0
            · obtain ⟨-, hex9, d2, d3⟩ := ex_dev (skew := skew) hz9
              have hn9 : ¬ (skew < devV A S R (v - 1) ∨ skew < -(devV A S R (v - 1))) := fun h => by have := hex9.2 h; rw [HX9.out] at this; cases this
              have hn1 : devV A S R (v - 1) ≤ skew := by omega
              have hn2 : -(devV A S R (v - 1)) ≤ skew := by omega
              have z9 : (showE A S R (v - 1) == 0) = true := by simp [hz9]
              clear hz9 hex9 hn9
              go_wp2_with fail
              refine (dev_any _ _ _ _ _ _ hk6 hB).mono ?_; rintro e w8 ⟨rfl, hb8⟩
              have hb := below_trans hb hb8
              go_wp2_with fail
              refine (known47 _).mono ?_; rintro e w20 ⟨rfl, hb20⟩
              go_wp2_with fail
              go_ret
              exact .bool rfl (below_trans hb hb20)
            · have z9 : (showE A S R (v - 1) == 0) = false := by simpa using hz9
              clear hz9
              go_wp2_with fail
              refine (dev_any _ _ _ _ _ _ hk6 hB).mono ?_; rintro e w8 ⟨rfl, hb8⟩
              have hb := below_trans hb hb8
              go_wp2_with fail
              refine (known47 _).mono ?_; rintro e w20 ⟨rfl, hb20⟩
              go_wp2_with fail
              go_ret
              exact .bool rfl (below_trans hb hb20)
          · go_wp2_with fail
            refine (known47 _).mono ?_; rintro e w20 ⟨rfl, hb20⟩
            go_wp2_with fail
            go_ret
            exact .bool rfl (below_trans hb hb20)
      · have z2 : (showE A S R v == 0) = false := by simpa using hz
        clear hz h5x
        go_wp2_with fail
        refine (dev_any _ _ _ _ _ _ hk5 hB).mono ?_; rintro e w7 ⟨rfl, hb7⟩
        have hk6 := hk5.below hb7
        have hb := below_trans hb hb7
        have h5 := H5.out
        by_cases hva : A < v
        · have hx9 := h5.2 hva
          have HX9 := Lib.hid hx9
          clear hx9
          by_cases hz9 : showE A S R (v - 1) = 0
          · obtain ⟨-, hex9, d2, d3⟩ := ex_dev (skew := skew) hz9
            have hn9 : ¬ (skew < devV A S R (v - 1) ∨ skew < -(devV A S R (v - 1))) := fun h => by have := hex9.2 h; rw [HX9.out] at this; cases this
            have hn1 : devV A S R (v - 1) ≤ skew := by omega
            have hn2 : -(devV A S R (v - 1)) ≤ skew := by omega
            have z9 : (showE A S R (v - 1) == 0) = true := by simp [hz9]
            clear hz9 hex9 hn9
            go_wp2_with fail
            refine (dev_any _ _ _ _ _ _ hk6 hB).mono ?_; rintro e w8 ⟨rfl, hb8⟩
            have hb := below_trans hb hb8
            go_wp2_with fail
            refine (known47 _).mono ?_; rintro e w20 ⟨rfl, hb20⟩
            go_wp2_with fail
            go_ret
            exact .bool rfl (below_trans hb hb20)
          · have z9 : (showE A S R (v - 1) == 0) = false := by simpa using hz9
            clear hz9
            go_wp2_with fail
            refine (dev_any _ _ _ _ _ _ hk6 hB).mono ?_; rintro e w8 ⟨rfl, hb8⟩
            have hb := below_trans hb hb8
            go_wp2_with fail
            refine (known47 _).mono ?_; rintro e w20 ⟨rfl, hb20⟩
            go_wp2_with fail
            go_ret
            exact .bool rfl (below_trans hb hb20)
        · go_wp2_with fail
          refine (known47 _).mono ?_; rintro e w20 ⟨rfl, hb20⟩
          go_wp2_with fail
          go_ret
          exact .bool rfl (below_trans hb hb20)
  · go_enter Try.func5, Try.ntmps5
    go_wp2_with fail
    refine (new_ok _ _ _ _ HN.out).mono ?_; rintro e w1 ⟨g, rfl, hg, hk1, hb1⟩
    go_wp2_with fail
    refine (show_any _ _ _ _ _ _ hk1 hB).mono ?_; rintro e w2 ⟨rfl, hb2⟩
    have hk2 := hk1.below hb2
    go_wp2_with fail
    refine (show_any _ _ _ _ _ _ hk2 hB).mono ?_; rintro e w3 ⟨rfl, hb3⟩
    have hk3 := hk2.below hb3
    have hb := below_trans (below_trans hb1 hb2) hb3
    clear hb1 hb2 hb3 hk1 hk2
    have HR0 := int_of_beq hR
    have hdiff : (showV A S R (A + later) - showV A S R (A + late) != later - late) = false := by subst HR0; simp [grow_zero hG]
    clear HR0
    go_wp2_with fail
    refine (copy_ex _ _ _ _ _ hk3).mono ?_; rintro e w4 ⟨d, rfl, hd, hd4, hb4⟩
    have hk4 := hk3.below hb4
    have hgd : g ≠ d := by have := hk3.lt; omega
    have hwd : w.heap.size ≤ d := by have := hb.size; omega
    have hb := below_trans hb hb4
    clear hb4
    go_wp2_with fail
    refine (set_ok _ _ _ _ _ _ _ hd4 hG).mono ?_; rintro e w5 ⟨rfl, hd5, hg5⟩
    have hk5 := hk4.only hg5 hgd
    have hb := below_only hb hg5 hwd
    clear hg5 hd4 hk4 hk3
    go_wp2_with fail
    refine (show_any _ _ _ _ _ _ hd5 hB').mono ?_; rintro e w6 ⟨rfl, hb6⟩
    have hk5 := hk5.below hb6
    have hb := below_trans hb hb6
    clear hb6 hd5
    go_wp2_with fail
    refine (exceeds_any _ _ _ _ _ _ _ _ _ hk5 hB hk1 HX.out).mono ?_; rintro e w6a ⟨rfl, hb6a⟩
    have hk5 := hk5.below hb6a
    have hb := below_trans hb hb6a
    clear hb6a
    rcases HC.out with ⟨h1, h2⟩ | ⟨h1, h2⟩ | ⟨h1, h2, h3, h4, h5x, h6⟩
    · have z1 : (c != 0) = true := by simp [h1]
      have z2 : (c == 9) = false := by simp [h1]
      have z3 : (c == 2) = true := by simp [h1]
      clear h1
      go_wp2_with fail
      refine (known47 _).mono ?_; rintro e w20 ⟨rfl, hb20⟩
      go_wp2_with fail
      go_ret
      exact .bool rfl (below_trans hb hb20)
    · have z1 : (c != 0) = true := by simp [h1]
      have z2 : (c == 9) = true := by simp [h1]
      clear h1
      go_wp2_with fail
      refine (known47 _).mono ?_; rintro e w20 ⟨rfl, hb20⟩
      go_wp2_with fail
      go_ret
      exact .bool rfl (below_trans hb hb20)
    · have z1 : (c != 0) = false := by simp [h1]
      clear h1
      have h5 : A ≤ v ∧ (A < v → exB A S R skew (v - 1) = false) := ⟨h3, h6⟩
      have H5 := Lib.hid h5
      clear h6 h5
      by_cases hz : showE A S R v = 0
      · obtain ⟨-, hex, d0, d1⟩ := ex_dev (skew := skew) hz
        have ho := hex.1 h5x
        have z2 : (showE A S R v == 0) = true := by simp [hz]
        clear hz hex h5x
        by_cases ho1 : skew < devV A S R v
        · clear ho
          go_wp2_with fail
          refine (dev_any _ _ _ _ _ _ hk5 hB).mono ?_; rintro e w7 ⟨rfl, hb7⟩
          have hk6 := hk5.below hb7
          have hb := below_trans hb hb7
          have h5 := H5.out
          by_cases hva : A < v
          · have hx9 := h5.2 hva
            have HX9 := Lib.hid hx9
            clear hx9
            by_cases hz9 : showE A S R (v - 1) = 0
            · obtain ⟨-, hex9, d2, d3⟩ := ex_dev (skew := skew) hz9
              have hn9 : ¬ (skew < devV A S R (v - 1) ∨ skew < -(devV A S R (v - 1))) := fun h => by have := hex9.2 h; rw [HX9.out] at this; cases this
              have hn1 : devV A S R (v - 1) ≤ skew := by omega
              have hn2 : -(devV A S R (v - 1)) ≤ skew := by omega
              have z9 : (showE A S R (v - 1) == 0) = true := by simp [hz9]
              clear hz9 hex9 hn9
              go_wp2_with fail
              refine (dev_any _ _ _ _ _ _ hk6 hB).mono ?_; rintro e w8 ⟨rfl, hb8⟩
              have hb := below_trans hb hb8
              go_wp2_with fail
              refine (known47 _).mono ?_; rintro e w20 ⟨rfl, hb20⟩
              go_wp2_with fail
              go_ret
              exact .bool rfl (below_trans hb hb20)
            · have z9 : (showE A S R (v - 1) == 0) = false := by simpa using hz9
              clear hz9
              go_wp2_with fail
              refine (dev_any _ _ _ _ _ _ hk6 hB).mono ?_; rintro e w8 ⟨rfl, hb8⟩
              have hb := below_trans hb hb8
              go_wp2_with fail
              refine (known47 _).mono ?_; rintro e w20 ⟨rfl, hb20⟩
              go_wp2_with fail
              go_ret
              exact .bool rfl (below_trans hb hb20)
          · go_wp2_with fail
            refine (known47 _).mono ?_; rintro e w20 ⟨rfl, hb20⟩
            go_wp2_with fail
            go_ret
            exact .bool rfl (below_trans hb hb20)
        · have ho2 : skew < -(devV A S R v) := by omega
          clear ho
          go_wp2_with fail
          refine (dev_any _ _ _ _ _ _ hk5 hB).mono ?_; rintro e w7 ⟨rfl, hb7⟩
          have hk6 := hk5.below hb7
          have hb := below_trans hb hb7
          have h5 := H5.out
          by_cases hva : A < v
          · have hx9 := h5.2 hva
            have HX9 := Lib.hid hx9
            clear hx9
            by_cases hz9 : showE A S R (v - 1) = 0
            · obtain ⟨-, hex9, d2, d3⟩ := ex_dev (skew := skew) hz9
              have hn9 : ¬ (skew < devV A S R (v - 1) ∨ skew < -(devV A S R (v - 1))) := fun h => by have := hex9.2 h; rw [HX9.out] at this; cases this
              have hn1 : devV A S R (v - 1) ≤ skew := by omega
              have hn2 : -(devV A S R (v - 1)) ≤ skew := by omega
              have z9 : (showE A S R (v - 1) == 0) = true := by simp [hz9]
              clear hz9 hex9 hn9
              go_wp2_with fail
              refine (dev_any _ _ _ _ _ _ hk6 hB).mono ?_; rintro e w8 ⟨rfl, hb8⟩
              have hb := below_trans hb hb8
              go_wp2_with fail
              refine (known47 _).mono ?_; rintro e w20 ⟨rfl, hb20⟩
              go_wp2_with fail
              go_ret
              exact .bool rfl (below_trans hb hb20)
            · have z9 : (showE A S R (v - 1) == 0) = false := by simpa using hz9
              clear hz9
              go_wp2_with fail
              refine (dev_any _ _ _ _ _ _ hk6 hB).mono ?_; rintro e w8 ⟨rfl, hb8⟩
              have hb := below_trans hb hb8
              go_wp2_with fail
              refine (known47 _).mono ?_; rintro e w20 ⟨rfl, hb20⟩
              go_wp2_with fail
              go_ret
              exact .bool rfl (below_trans hb hb20)
          · go_wp2_with fail
            refine (known47 _).mono ?_; rintro e w20 ⟨rfl, hb20⟩
            go_wp2_with fail
            go_ret
            exact .bool rfl (below_trans hb hb20)
      · have z2 : (showE A S R v == 0) = false := by simpa using hz
        clear hz h5x
        go_wp2_with fail
        refine (dev_any _ _ _ _ _ _ hk5 hB).mono ?_; rintro e w7 ⟨rfl, hb7⟩
        have hk6 := hk5.below hb7
        have hb := below_trans hb hb7
        have h5 := H5.out
        by_cases hva : A < v
        · have hx9 := h5.2 hva
          have HX9 := Lib.hid hx9
          clear hx9
          by_cases hz9 : showE A S R (v - 1) = 0
          · obtain ⟨-, hex9, d2, d3⟩ := ex_dev (skew := skew) hz9
            have hn9 : ¬ (skew < devV A S R (v - 1) ∨ skew < -(devV A S R (v - 1))) := fun h => by have := hex9.2 h; rw [HX9.out] at this; cases this
            have hn1 : devV A S R (v - 1) ≤ skew := by omega
            have hn2 : -(devV A S R (v - 1)) ≤ skew := by omega
            have z9 : (showE A S R (v - 1) == 0) = true := by simp [hz9]
            clear hz9 hex9 hn9
            go_wp2_with fail
            refine (dev_any _ _ _ _ _ _ hk6 hB).mono ?_; rintro e w8 ⟨rfl, hb8⟩
            have hb := below_trans hb hb8
            go_wp2_with fail
            refine (known47 _).mono ?_; rintro e w20 ⟨rfl, hb20⟩
            go_wp2_with fail
            go_ret
            exact .bool rfl (below_trans hb hb20)
          · have z9 : (showE A S R (v - 1) == 0) = false := by simpa using hz9
            clear hz9
            go_wp2_with fail
            refine (dev_any _ _ _ _ _ _ hk6 hB).mono ?_; rintro e w8 ⟨rfl, hb8⟩
            have hb := below_trans hb hb8
            go_wp2_with fail
            refine (known47 _).mono ?_; rintro e w20 ⟨rfl, hb20⟩
            go_wp2_with fail
            go_ret
            exact .bool rfl (below_trans hb hb20)
        · go_wp2_with fail
          refine (known47 _).mono ?_; rintro e w20 ⟨rfl, hb20⟩
          go_wp2_with fail
          go_ret
          exact .bool rfl (below_trans hb hb20)

theorem law_grows (A S R late later skew : Int) (w : World) (hk1 : skew ≤ 9223372036854775807) :
    Calls Try.prog 5 #[.int .i64 A, .int .i64 S, .int .i64 R, .int .i64 late, .int .i64 later, .int .i64 skew] w (RetB w (.bool true)) := by
  rcases hn : newOk A S R with _ | _
  · exact grows_bad A S R late later skew w hn
  · by_cases h : A ≤ 549755813888 ∧ S ≤ 549755813888 ∧ 0 ≤ late ∧ late ≤ later ∧ later ≤ 274877906944
    · exact grows_in A S R late later skew w hn ⟨newOk_B hn, h.1, h.2.1, h.2.2.1, h.2.2.2.1, h.2.2.2.2⟩ hk1
    · exact grows_out A S R late later skew w hn (by omega)

end Go.Proofs.Yticnklmpplicfaa
