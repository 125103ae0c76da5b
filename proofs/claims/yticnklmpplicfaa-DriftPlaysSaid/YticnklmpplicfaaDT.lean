/- Contracts of the reference's Step and SetRate, and of agrees of law 47: the clock and the reference show the same. -/
import Derived.Test.YticnklmpplicfaaDK
namespace Go.Proofs.Yticnklmpplicfaa
open Go.RowKit

/-- Block g holds a clock of the reference. -/
def Rcl (w : World) (g : Nat) (A S R : Int) : Prop := w.heap[g]? = some (.cells #[.int .i64 A, .int .i64 S, .int .i64 R] 27 (0, 0))
section
variable {w w' : World} {g : Nat} {A S R : Int}
theorem Rcl.lt (h : Rcl w g A S R) : g < w.heap.size := by
  rcases Nat.lt_or_ge g w.heap.size with hlt | hge
  · exact hlt
  · unfold Rcl at h; rw [Array.getElem?_eq_none hge] at h; cases h
theorem Rcl.cs (h : Rcl w g A S R) : w.cell? ⟨g, 0, none⟩ = some (.int .i64 A) ∧ w.cell? ⟨g, 1, none⟩ = some (.int .i64 S) ∧ w.cell? ⟨g, 2, none⟩ = some (.int .i64 R) :=
  ⟨cell_of_row w g 0 _ 27 (0, 0) h, cell_of_row w g 1 _ 27 (0, 0) h, cell_of_row w g 2 _ 27 (0, 0) h⟩
theorem Rcl.free (h : Rcl w g A S R) : w.frozen? ⟨g, 0, none⟩ = false ∧ w.frozen? ⟨g, 1, none⟩ = false ∧ w.frozen? ⟨g, 2, none⟩ = false := by
  unfold Rcl at h
  simp [World.frozen?, h]
theorem Rcl.below (h : Rcl w g A S R) (hb : Below w.heap.size w w') : Rcl w' g A S R := (hb.block g h.lt).trans h
theorem Rcl.only {g' : Nat} (h : Rcl w g A S R) (hg : w.grownBy w' (some g')) (hne : g ≠ g') : Rcl w' g A S R := (hg.block g h.lt (fun e => hne (by injection e))).trans h
theorem Rcl.alloc (h : Rcl w g A S R) (o : Obj) : Rcl (w.alloc o) g A S R := (Below.heap_alloc w o g h.lt).trans h
theorem Rcl.new (w : World) (A S R : Int) (g : Nat) (hg : w.heap.size = g) : Rcl (w.alloc (.cells #[.int .i64 A, .int .i64 S, .int .i64 R] 27)) g A S R := by subst hg; exact heap_alloc_new w _
theorem Clk.only' {g' : Nat} (h : Clk w g A S R) (hg : w.grownBy w' (some g')) (hne : g ≠ g') : Clk w' g A S R :=
  (hg.block g h.lt (fun e => hne (by injection e))).trans h
end

theorem below_set {W w : World} {g : Nat} (h : Below W.heap.size W w) (hg : W.heap.size ≤ g) (i : Nat) (u : Value) : Below W.heap.size W (w.setCell ⟨g, i, none⟩ u) := h.setCell hg u

/-- Behind the first call of Step and SetRate of the reference: the box of the clock, and the place of the result. -/
theorem two_rc {w w1 : World} {A S R A' S' R' : Int}
    (hb : Below ((w.alloc (.cells #[.int .i64 A, .int .i64 S, .int .i64 R] 27)).alloc (.cells #[.int .i64 A', .int .i64 S', .int .i64 R'] 27)).heap.size ((w.alloc (.cells #[.int .i64 A, .int .i64 S, .int .i64 R] 27)).alloc (.cells #[.int .i64 A', .int .i64 S', .int .i64 R'] 27)) w1) :
    Rcl w1 w.heap.size A S R ∧ Rcl w1 (w.heap.size + 1) A' S' R' :=
  ⟨((Rcl.new w A S R _ rfl).alloc _).below hb, (Rcl.new _ A' S' R' _ (by simp)).below hb⟩

set_option maxHeartbeats 1600000 in
theorem refstep_lo (A S R t b : Int) (w : World) (hB : CkB A S R) (hr : showE A S R t = 0) (h1 : b < -1099511627776) :
    Calls Try.prog 48 #[rclk A S R, .int .i64 t, .int .i64 b] w (RetB w (.tuple #[rclk (stepA A S R t b) (stepS A S R t b) R, .int .i64 (stepE A S R t b)])) := by
  have hz : (showE A S R t != 0) = false := by simp [hr]
  obtain ⟨t0, t1, -, v0, v1, -⟩ := showE_ok hr
  have he : stepE A S R t b = 3 := by simp only [stepE, hr, if_true]; rw [if_neg]; rw [inB_iff]; omega
  have ha : stepA A S R t b = A := by simp [stepA, he]
  have hs : stepS A S R t b = S := by simp [stepS, he]
  rw [he, ha, hs]
  clear hr he ha hs
  go_enter Try.func48, Try.ntmps48
  go_wp2_with fail
  refine (refshow_any _ _ _ _ _ hB).mono ?_; rintro e w1 ⟨rfl, hb1⟩
  obtain ⟨hx, hy⟩ := two_rc hb1
  obtain ⟨c0, c1, c2⟩ := hx.cs
  obtain ⟨d0, d1, d2⟩ := hy.cs
  obtain ⟨f0, f1, f2⟩ := hy.free
  have l1 := hy.lt
  go_wp2_with fail
  refine bodyPost_ret (v := .tuple #[rclk A S R, .int .i64 3]) (by simp [results, Try.results48, go_sem, d0, d1, d2]) rfl ⟨rfl, below_set (below_set (below_set (below_box (below_box hb1)) (by omega) _ _) (by omega) _ _) (by omega) _ _⟩

set_option maxHeartbeats 1600000 in
theorem refstep_hi (A S R t b : Int) (w : World) (hB : CkB A S R) (hr : showE A S R t = 0) (h1 : 1099511627776 < b) :
    Calls Try.prog 48 #[rclk A S R, .int .i64 t, .int .i64 b] w (RetB w (.tuple #[rclk (stepA A S R t b) (stepS A S R t b) R, .int .i64 (stepE A S R t b)])) := by
  have hz : (showE A S R t != 0) = false := by simp [hr]
  obtain ⟨t0, t1, -, v0, v1, -⟩ := showE_ok hr
  have he : stepE A S R t b = 3 := by simp only [stepE, hr, if_true]; rw [if_neg]; rw [inB_iff]; omega
  have ha : stepA A S R t b = A := by simp [stepA, he]
  have hs : stepS A S R t b = S := by simp [stepS, he]
  rw [he, ha, hs]
  clear hr he ha hs
  go_enter Try.func48, Try.ntmps48
  go_wp2_with fail
  refine (refshow_any _ _ _ _ _ hB).mono ?_; rintro e w1 ⟨rfl, hb1⟩
  obtain ⟨hx, hy⟩ := two_rc hb1
  obtain ⟨c0, c1, c2⟩ := hx.cs
  obtain ⟨d0, d1, d2⟩ := hy.cs
  obtain ⟨f0, f1, f2⟩ := hy.free
  have l1 := hy.lt
  go_wp2_with fail
  refine bodyPost_ret (v := .tuple #[rclk A S R, .int .i64 3]) (by simp [results, Try.results48, go_sem, d0, d1, d2]) rfl ⟨rfl, below_set (below_set (below_set (below_box (below_box hb1)) (by omega) _ _) (by omega) _ _) (by omega) _ _⟩

set_option maxHeartbeats 1600000 in
theorem refstep_out (A S R t b : Int) (w : World) (hB : CkB A S R) (hr : showE A S R t = 0) (h1 : -1099511627776 ≤ b) (h2 : b ≤ 1099511627776) (h3 : inB 0 1099511627776 (showV A S R t + b) = false) :
    Calls Try.prog 48 #[rclk A S R, .int .i64 t, .int .i64 b] w (RetB w (.tuple #[rclk (stepA A S R t b) (stepS A S R t b) R, .int .i64 (stepE A S R t b)])) := by
  have hz : (showE A S R t != 0) = false := by simp [hr]
  obtain ⟨t0, t1, -, v0, v1, -⟩ := showE_ok hr
  have h4 := inB_f.1 h3
  have he : stepE A S R t b = 3 := by simp only [stepE, hr, if_true]; rw [if_neg]; rw [inB_iff]; omega
  have ha : stepA A S R t b = A := by simp [stepA, he]
  have hs : stepS A S R t b = S := by simp [stepS, he]
  rw [he, ha, hs]
  clear hr he ha hs h4
  go_enter Try.func48, Try.ntmps48
  go_wp2_with fail
  refine (refshow_any _ _ _ _ _ hB).mono ?_; rintro e w1 ⟨rfl, hb1⟩
  obtain ⟨hx, hy⟩ := two_rc hb1
  obtain ⟨c0, c1, c2⟩ := hx.cs
  obtain ⟨d0, d1, d2⟩ := hy.cs
  obtain ⟨f0, f1, f2⟩ := hy.free
  have l1 := hy.lt
  go_wp2_with fail
  refine (time_any _ _).mono ?_; rintro e w' ⟨rfl, rfl⟩
  go_wp2_with fail
  refine bodyPost_ret (v := .tuple #[rclk A S R, .int .i64 3]) (by simp [results, Try.results48, go_sem, d0, d1, d2]) rfl ⟨rfl, below_set (below_set (below_set (below_box (below_box hb1)) (by omega) _ _) (by omega) _ _) (by omega) _ _⟩

set_option maxHeartbeats 1600000 in
theorem refstep_ok (A S R t b : Int) (w : World) (hB : CkB A S R) (hr : showE A S R t = 0) (h1 : -1099511627776 ≤ b) (h2 : b ≤ 1099511627776) (h3 : inB 0 1099511627776 (showV A S R t + b) = true) :
    Calls Try.prog 48 #[rclk A S R, .int .i64 t, .int .i64 b] w (RetB w (.tuple #[rclk (stepA A S R t b) (stepS A S R t b) R, .int .i64 (stepE A S R t b)])) := by
  have hz : (showE A S R t != 0) = false := by simp [hr]
  obtain ⟨t0, t1, -, v0, v1, -⟩ := showE_ok hr
  have h4 := inB_iff.1 h3
  have he : stepE A S R t b = 0 := by simp only [stepE, hr, if_true]; rw [if_pos]; rw [inB_iff]; omega
  have ha : stepA A S R t b = t := by simp [stepA, he]
  have hs : stepS A S R t b = showV A S R t + b := by simp [stepS, he]
  rw [he, ha, hs]
  clear hr he ha hs h4
  go_enter Try.func48, Try.ntmps48
  go_wp2_with fail
  refine (refshow_any _ _ _ _ _ hB).mono ?_; rintro e w1 ⟨rfl, hb1⟩
  obtain ⟨hx, hy⟩ := two_rc hb1
  obtain ⟨c0, c1, c2⟩ := hx.cs
  obtain ⟨d0, d1, d2⟩ := hy.cs
  obtain ⟨f0, f1, f2⟩ := hy.free
  have l1 := hy.lt
  go_wp2_with fail
  refine (time_any _ _).mono ?_; rintro e w' ⟨rfl, rfl⟩
  go_wp2_with fail
  refine bodyPost_ret (v := .tuple #[rclk t (showV A S R t + b) R, .int .i64 0]) (by simp [results, Try.results48, go_sem, d0, d1, d2]) rfl ⟨rfl, below_set (below_set (below_set (below_box (below_box hb1)) (by omega) _ _) (by omega) _ _) (by omega) _ _⟩

set_option maxHeartbeats 1600000 in
theorem refstep_bad (A S R t b : Int) (w : World) (hB : CkB A S R) (hr : showE A S R t ≠ 0) :
    Calls Try.prog 48 #[rclk A S R, .int .i64 t, .int .i64 b] w (RetB w (.tuple #[rclk (stepA A S R t b) (stepS A S R t b) R, .int .i64 (stepE A S R t b)])) := by
  have hz : (showE A S R t != 0) = true := by simpa using hr
  have he : stepE A S R t b = showE A S R t := by simp [stepE, hr]
  have ha : stepA A S R t b = A := by simp [stepA, he, hr]
  have hs : stepS A S R t b = S := by simp [stepS, he, hr]
  rw [he, ha, hs]
  clear hr he ha hs
  go_enter Try.func48, Try.ntmps48
  go_wp2_with fail
  refine (refshow_any _ _ _ _ _ hB).mono ?_; rintro e w1 ⟨rfl, hb1⟩
  obtain ⟨hx, hy⟩ := two_rc hb1
  obtain ⟨c0, c1, c2⟩ := hx.cs
  obtain ⟨d0, d1, d2⟩ := hy.cs
  obtain ⟨f0, f1, f2⟩ := hy.free
  have l1 := hy.lt
  go_wp2_with fail
  refine bodyPost_ret (v := .tuple #[rclk A S R, .int .i64 (showE A S R t)]) (by simp [results, Try.results48, go_sem, d0, d1, d2]) rfl ⟨rfl, below_set (below_set (below_set (below_box (below_box hb1)) (by omega) _ _) (by omega) _ _) (by omega) _ _⟩

theorem refstep_any (A S R t b : Int) (w : World) (hB : CkB A S R) :
    Calls Try.prog 48 #[rclk A S R, .int .i64 t, .int .i64 b] w (RetB w (.tuple #[rclk (stepA A S R t b) (stepS A S R t b) R, .int .i64 (stepE A S R t b)])) := by
  by_cases hr : showE A S R t = 0
  · by_cases h1 : b < -1099511627776
    · exact refstep_lo A S R t b w hB hr h1
    by_cases h2 : 1099511627776 < b
    · exact refstep_hi A S R t b w hB hr h2
    rcases h3 : inB 0 1099511627776 (showV A S R t + b) with _ | _
    · exact refstep_out A S R t b w hB hr (by omega) (by omega) h3
    · exact refstep_ok A S R t b w hB hr (by omega) (by omega) h3
  · exact refstep_bad A S R t b w hB hr

set_option maxHeartbeats 1600000 in
theorem refset_lo (A S R t r : Int) (w : World) (h1 : r < -100000) :
    Calls Try.prog 49 #[rclk A S R, .int .i64 t, .int .i64 r] w (RetB w (.tuple #[rclk (setA A S R t r) (setS A S R t r) (setR A S R t r), .int .i64 (setE A S R t r)])) := by
  have he : setE A S R t r = 2 := by simp only [setE]; rw [if_neg]; rw [inB_iff]; omega
  have ha : setA A S R t r = A := by simp [setA, he]
  have hs : setS A S R t r = S := by simp [setS, he]
  have hq : setR A S R t r = R := by simp [setR, he]
  rw [he, ha, hs, hq]
  clear he ha hs hq
  go_enter Try.func49, Try.ntmps49
  go_wp2_with fail
  refine bodyPost_ret (v := .tuple #[rclk A S R, .int .i64 2]) (by simp [results, Try.results49, go_sem]) rfl ⟨rfl, below_alloc (below1 _ _) _⟩

set_option maxHeartbeats 1600000 in
theorem refset_hi (A S R t r : Int) (w : World) (h1 : 100000 < r) :
    Calls Try.prog 49 #[rclk A S R, .int .i64 t, .int .i64 r] w (RetB w (.tuple #[rclk (setA A S R t r) (setS A S R t r) (setR A S R t r), .int .i64 (setE A S R t r)])) := by
  have he : setE A S R t r = 2 := by simp only [setE]; rw [if_neg]; rw [inB_iff]; omega
  have ha : setA A S R t r = A := by simp [setA, he]
  have hs : setS A S R t r = S := by simp [setS, he]
  have hq : setR A S R t r = R := by simp [setR, he]
  rw [he, ha, hs, hq]
  clear he ha hs hq
  go_enter Try.func49, Try.ntmps49
  go_wp2_with fail
  refine bodyPost_ret (v := .tuple #[rclk A S R, .int .i64 2]) (by simp [results, Try.results49, go_sem]) rfl ⟨rfl, below_alloc (below1 _ _) _⟩

set_option maxHeartbeats 1600000 in
theorem refset_ok (A S R t r : Int) (w : World) (hB : CkB A S R) (h1 : -100000 ≤ r) (h2 : r ≤ 100000) (hr : showE A S R t = 0) :
    Calls Try.prog 49 #[rclk A S R, .int .i64 t, .int .i64 r] w (RetB w (.tuple #[rclk (setA A S R t r) (setS A S R t r) (setR A S R t r), .int .i64 (setE A S R t r)])) := by
  have hi : inB (-100000) 100000 r = true := inB_iff.2 ⟨h1, h2⟩
  have hz : (showE A S R t != 0) = false := by simp [hr]
  have he : setE A S R t r = 0 := by simp [setE, hi, hr]
  have ha : setA A S R t r = t := by simp [setA, he]
  have hs : setS A S R t r = showV A S R t := by simp [setS, he]
  have hq : setR A S R t r = r := by simp [setR, he]
  rw [he, ha, hs, hq]
  clear he ha hs hq hr hi
  go_enter Try.func49, Try.ntmps49
  go_wp2_with fail
  refine (refshow_any _ _ _ _ _ hB).mono ?_; rintro e w1 ⟨rfl, hb1⟩
  obtain ⟨hx, hy⟩ := two_rc hb1
  obtain ⟨c0, c1, c2⟩ := hx.cs
  obtain ⟨d0, d1, d2⟩ := hy.cs
  obtain ⟨f0, f1, f2⟩ := hy.free
  have l1 := hy.lt
  go_wp2_with fail
  refine bodyPost_ret (v := .tuple #[rclk t (showV A S R t) r, .int .i64 0]) (by simp [results, Try.results49, go_sem, d0, d1, d2]) rfl ⟨rfl, below_set (below_set (below_set (below_box (below_box hb1)) (by omega) _ _) (by omega) _ _) (by omega) _ _⟩

set_option maxHeartbeats 1600000 in
theorem refset_bad (A S R t r : Int) (w : World) (hB : CkB A S R) (h1 : -100000 ≤ r) (h2 : r ≤ 100000) (hr : showE A S R t ≠ 0) :
    Calls Try.prog 49 #[rclk A S R, .int .i64 t, .int .i64 r] w (RetB w (.tuple #[rclk (setA A S R t r) (setS A S R t r) (setR A S R t r), .int .i64 (setE A S R t r)])) := by
  have hi : inB (-100000) 100000 r = true := inB_iff.2 ⟨h1, h2⟩
  have hz : (showE A S R t != 0) = true := by simpa using hr
  have he : setE A S R t r = showE A S R t := by simp [setE, hi]
  have ha : setA A S R t r = A := by simp [setA, he, hr]
  have hs : setS A S R t r = S := by simp [setS, he, hr]
  have hq : setR A S R t r = R := by simp [setR, he, hr]
  rw [he, ha, hs, hq]
  clear he ha hs hq
  clear hi hr
  go_enter Try.func49, Try.ntmps49
  go_wp2_with fail
  refine (refshow_any _ _ _ _ _ hB).mono ?_; rintro e w1 ⟨rfl, hb1⟩
  obtain ⟨hx, hy⟩ := two_rc hb1
  obtain ⟨c0, c1, c2⟩ := hx.cs
  obtain ⟨d0, d1, d2⟩ := hy.cs
  obtain ⟨f0, f1, f2⟩ := hy.free
  have l1 := hy.lt
  go_wp2_with fail
  refine bodyPost_ret (v := .tuple #[rclk A S R, .int .i64 (showE A S R t)]) (by simp [results, Try.results49, go_sem, d0, d1, d2]) rfl ⟨rfl, below_set (below_set (below_set (below_box (below_box hb1)) (by omega) _ _) (by omega) _ _) (by omega) _ _⟩

theorem refset_any (A S R t r : Int) (w : World) (hB : CkB A S R) :
    Calls Try.prog 49 #[rclk A S R, .int .i64 t, .int .i64 r] w (RetB w (.tuple #[rclk (setA A S R t r) (setS A S R t r) (setR A S R t r), .int .i64 (setE A S R t r)])) := by
  by_cases h1 : r < -100000
  · exact refset_lo A S R t r w h1
  by_cases h2 : 100000 < r
  · exact refset_hi A S R t r w h2
  by_cases hr : showE A S R t = 0
  · exact refset_ok A S R t r w hB (by omega) (by omega) hr
  · exact refset_bad A S R t r w hB (by omega) (by omega) hr

theorem step_B {A S R t b : Int} (hB : CkB A S R) : CkB (stepA A S R t b) (stepS A S R t b) R := by
  obtain ⟨a0, a1, s0, s1, r0, r1⟩ := hB
  by_cases he : stepE A S R t b = 0
  · have ha : stepA A S R t b = t := by simp [stepA, he]
    have hs : stepS A S R t b = showV A S R t + b := by simp [stepS, he]
    rw [ha, hs]
    by_cases hr : showE A S R t = 0
    · obtain ⟨t0, t1, -, v0, v1, -⟩ := showE_ok hr
      simp only [stepE, hr, if_true] at he
      split at he
      · rename_i h
        have := inB_iff.1 h
        exact ⟨t0, t1, by omega, by omega, r0, r1⟩
      · omega
    · simp [stepE, hr] at he
  · have ha : stepA A S R t b = A := by simp [stepA, he]
    have hs : stepS A S R t b = S := by simp [stepS, he]
    rw [ha, hs]
    exact ⟨a0, a1, s0, s1, r0, r1⟩
theorem set_B {A S R t r : Int} (hB : CkB A S R) : CkB (setA A S R t r) (setS A S R t r) (setR A S R t r) := by
  obtain ⟨a0, a1, s0, s1, r0, r1⟩ := hB
  by_cases he : setE A S R t r = 0
  · have ha : setA A S R t r = t := by simp [setA, he]
    have hs : setS A S R t r = showV A S R t := by simp [setS, he]
    have hq : setR A S R t r = r := by simp [setR, he]
    rw [ha, hs, hq]
    rcases hi : inB (-100000) 100000 r with _ | _
    · simp [setE, hi] at he
    · have hr : showE A S R t = 0 := by simpa [setE, hi] using he
      obtain ⟨t0, t1, -, v0, v1, -⟩ := showE_ok hr
      have := inB_iff.1 hi
      exact ⟨t0, t1, v0, v1, this.1, this.2⟩
  · have ha : setA A S R t r = A := by simp [setA, he]
    have hs : setS A S R t r = S := by simp [setS, he]
    have hq : setR A S R t r = R := by simp [setR, he]
    rw [ha, hs, hq]
    exact ⟨a0, a1, s0, s1, r0, r1⟩

end Go.Proofs.Yticnklmpplicfaa
