/- The walk of DriftCompares: it returns true whatever the clocks and numbers are. -/
import Derived.Test.YticnklmpplicfaaL1
import Derived.Test.YticnklmpplicfaaDF
namespace Go.Proofs.Yticnklmpplicfaa
open Go.RowKit

theorem box2_cells {w wr : World} {A S R A' S' R' : Int}
    (hb : Below ((w.alloc (.cells #[.int .i64 A, .int .i64 S, .int .i64 R] 27)).alloc (.cells #[.int .i64 A', .int .i64 S', .int .i64 R'] 27)).heap.size ((w.alloc (.cells #[.int .i64 A, .int .i64 S, .int .i64 R] 27)).alloc (.cells #[.int .i64 A', .int .i64 S', .int .i64 R'] 27)) wr) :
    (wr.cell? ⟨w.heap.size, 0, none⟩ = some (.int .i64 A) ∧ wr.cell? ⟨w.heap.size, 1, none⟩ = some (.int .i64 S) ∧ wr.cell? ⟨w.heap.size, 2, none⟩ = some (.int .i64 R)) ∧
    (wr.cell? ⟨w.heap.size + 1, 0, none⟩ = some (.int .i64 A') ∧ wr.cell? ⟨w.heap.size + 1, 1, none⟩ = some (.int .i64 S') ∧ wr.cell? ⟨w.heap.size + 1, 2, none⟩ = some (.int .i64 R')) ∧ w.heap.size < wr.heap.size ∧ w.heap.size + 1 < wr.heap.size := by
  obtain ⟨h, _⟩ := bcell hb
  refine ⟨⟨?_, ?_, ?_⟩, ⟨?_, ?_, ?_⟩, by have := hb.size; simp at this; omega, by have := hb.size; simp at this; omega⟩ <;> (rw [h _ _ (by simp <;> omega)]; simp)
theorem below_box2 {w w1 : World} {A S R A' S' R' : Int} (hb : Below ((w.alloc (.cells #[.int .i64 A, .int .i64 S, .int .i64 R] 27)).alloc (.cells #[.int .i64 A', .int .i64 S', .int .i64 R'] 27)).heap.size ((w.alloc (.cells #[.int .i64 A, .int .i64 S, .int .i64 R] 27)).alloc (.cells #[.int .i64 A', .int .i64 S', .int .i64 R'] 27)) w1) : Below w.heap.size w w1 := below_box (below_box hb)

set_option maxRecDepth 100000 in
set_option maxHeartbeats 6400000 in
theorem compares_bad (A S R A' S' R' t skew : Int) (w : World) (hn : newOk A S R = false) :
    Calls Try.prog 6 #[rclk A S R, rclk A' S' R', .int .i64 t, .int .i64 skew] w (RetB w (.bool true)) := by
  have HN := Lib.hid hn
  clear hn
  rcases hn' : newOk A' S' R' with _ | _
  · have HN' := Lib.hid hn'
    clear hn'
    go_enter Try.func6, Try.ntmps6
    go_wp2_with fail
    refine (new_bad _ _ _ _ HN.out).mono ?_; rintro e w1 ⟨rfl, hb⟩
    obtain ⟨⟨c0, c1, c2⟩, ⟨d0, d1, d2⟩, hz1, hz2⟩ := box2_cells hb
    go_wp2_with fail
    refine (new_bad _ _ _ _ HN'.out).mono ?_; rintro e w2 ⟨rfl, hb2⟩
    have hb := hb.trans (hb2.mono hb.size)
    clear c0 c1 c2 d0 d1 d2 hz1 hz2
    obtain ⟨⟨c0, c1, c2⟩, ⟨d0, d1, d2⟩, hz1, hz2⟩ := box2_cells hb
    go_wp2_with fail
    refine (refnew_bad _ _ _ _ HN.out).mono ?_; rintro e w3 ⟨rfl, hb3⟩
    have hb := hb.trans (hb3.mono hb.size)
    clear c0 c1 c2 d0 d1 d2 hz1 hz2
    obtain ⟨⟨c0, c1, c2⟩, ⟨d0, d1, d2⟩, hz1, hz2⟩ := box2_cells hb
    go_wp2_with fail
    refine (refnew_bad _ _ _ _ HN'.out).mono ?_; rintro e w4 ⟨rfl, hb4⟩
    have ha := hb.alloc hb.size (.cells #[.int .i64 0, .int .i64 0, .int .i64 0] 27)
    have hb := ha.trans (hb4.mono ha.size)
    clear c0 c1 c2 d0 d1 d2 hz1 hz2
    obtain ⟨⟨c0, c1, c2⟩, ⟨d0, d1, d2⟩, hz1, hz2⟩ := box2_cells hb
    go_wp2_with fail
    refine (known47 _).mono ?_; rintro e wz ⟨rfl, hbz⟩
    go_wp2_with fail
    go_ret
    exact .bool rfl (below_trans (below_box2 (hb.alloc hb.size _)) hbz)
  · have HN' := Lib.hid hn'
    clear hn'
    go_enter Try.func6, Try.ntmps6
    go_wp2_with fail
    refine (new_bad _ _ _ _ HN.out).mono ?_; rintro e w1 ⟨rfl, hb⟩
    obtain ⟨⟨c0, c1, c2⟩, ⟨d0, d1, d2⟩, hz1, hz2⟩ := box2_cells hb
    go_wp2_with fail
    refine (new_ok _ _ _ _ HN'.out).mono ?_; rintro e w2 ⟨g', rfl, hg', hk', hb2⟩
    have hb := hb.trans (hb2.mono hb.size)
    clear c0 c1 c2 d0 d1 d2 hz1 hz2
    obtain ⟨⟨c0, c1, c2⟩, ⟨d0, d1, d2⟩, hz1, hz2⟩ := box2_cells hb
    go_wp2_with fail
    refine (refnew_bad _ _ _ _ HN.out).mono ?_; rintro e w3 ⟨rfl, hb3⟩
    have hk' := hk'.below hb3
    have hb := hb.trans (hb3.mono hb.size)
    clear c0 c1 c2 d0 d1 d2 hz1 hz2
    obtain ⟨⟨c0, c1, c2⟩, ⟨d0, d1, d2⟩, hz1, hz2⟩ := box2_cells hb
    go_wp2_with fail
    refine (refnew_ok _ _ _ _ HN'.out).mono ?_; rintro e w4 ⟨rfl, hb4⟩
    have hk' := (hk'.alloc _).below hb4
    have ha := hb.alloc hb.size (.cells #[.int .i64 0, .int .i64 0, .int .i64 0] 27)
    have hb := ha.trans (hb4.mono ha.size)
    clear c0 c1 c2 d0 d1 d2 hz1 hz2
    obtain ⟨⟨c0, c1, c2⟩, ⟨d0, d1, d2⟩, hz1, hz2⟩ := box2_cells hb
    go_wp2_with fail
    refine (known47 _).mono ?_; rintro e wz ⟨rfl, hbz⟩
    go_wp2_with fail
    go_ret
    exact .bool rfl (below_trans (below_box2 (hb.alloc hb.size _)) hbz)

set_option maxRecDepth 100000 in
set_option maxHeartbeats 6400000 in
theorem compares_one (A S R A' S' R' t skew : Int) (w : World) (hn : newOk A S R = true) (hn' : newOk A' S' R' = false) :
    Calls Try.prog 6 #[rclk A S R, rclk A' S' R', .int .i64 t, .int .i64 skew] w (RetB w (.bool true)) := by
  have HN := Lib.hid hn
  have HN' := Lib.hid hn'
  clear hn hn'
  go_enter Try.func6, Try.ntmps6
  go_wp2_with fail
  refine (new_ok _ _ _ _ HN.out).mono ?_; rintro e w1 ⟨g, rfl, hg, hk, hb⟩
  obtain ⟨⟨c0, c1, c2⟩, ⟨d0, d1, d2⟩, hz1, hz2⟩ := box2_cells hb
  go_wp2_with fail
  refine (new_bad _ _ _ _ HN'.out).mono ?_; rintro e w2 ⟨rfl, hb2⟩
  have hk := hk.below hb2
  have hb := hb.trans (hb2.mono hb.size)
  clear c0 c1 c2 d0 d1 d2 hz1 hz2
  obtain ⟨⟨c0, c1, c2⟩, ⟨d0, d1, d2⟩, hz1, hz2⟩ := box2_cells hb
  go_wp2_with fail
  refine (refnew_ok _ _ _ _ HN.out).mono ?_; rintro e w3 ⟨rfl, hb3⟩
  have hk := hk.below hb3
  have hb := hb.trans (hb3.mono hb.size)
  clear c0 c1 c2 d0 d1 d2 hz1 hz2
  obtain ⟨⟨c0, c1, c2⟩, ⟨d0, d1, d2⟩, hz1, hz2⟩ := box2_cells hb
  go_wp2_with fail
  refine (refnew_bad _ _ _ _ HN'.out).mono ?_; rintro e w4 ⟨rfl, hb4⟩
  have hk := (hk.alloc _).below hb4
  have ha := hb.alloc hb.size (.cells #[.int .i64 A, .int .i64 S, .int .i64 R] 27)
  have hb := ha.trans (hb4.mono ha.size)
  clear c0 c1 c2 d0 d1 d2 hz1 hz2
  obtain ⟨⟨c0, c1, c2⟩, ⟨d0, d1, d2⟩, hz1, hz2⟩ := box2_cells hb
  go_wp2_with fail
  refine (within_nil2 _ _ _ _ _ _ _ (hk.alloc _)).mono ?_; rintro e w5 ⟨rfl, hb5⟩
  have ha := hb.alloc hb.size (.cells #[.int .i64 0, .int .i64 0, .int .i64 0] 27)
  have hb := ha.trans (hb5.mono ha.size)
  go_wp2_with fail
  refine (known47 _).mono ?_; rintro e wz ⟨rfl, hbz⟩
  go_wp2_with fail
  go_ret
  exact .bool rfl (below_trans (below_box2 hb) hbz)

/-- Block g holds a clock of the reference. -/
def Rck (w : World) (g : Nat) (A S R : Int) : Prop := w.heap[g]? = some (.cells #[.int .i64 A, .int .i64 S, .int .i64 R] 27 (0, 0))
theorem Rck.lt {w : World} {g : Nat} {A S R : Int} (h : Rck w g A S R) : g < w.heap.size := by
  rcases Nat.lt_or_ge g w.heap.size with hlt | hge
  · exact hlt
  · unfold Rck at h; rw [Array.getElem?_eq_none hge] at h; cases h
theorem Rck.c0 {w : World} {g : Nat} {A S R : Int} (h : Rck w g A S R) : w.cell? ⟨g, 0, none⟩ = some (.int .i64 A) := cell_of_row w g 0 _ 27 (0, 0) h
theorem Rck.c1 {w : World} {g : Nat} {A S R : Int} (h : Rck w g A S R) : w.cell? ⟨g, 1, none⟩ = some (.int .i64 S) := cell_of_row w g 1 _ 27 (0, 0) h
theorem Rck.c2 {w : World} {g : Nat} {A S R : Int} (h : Rck w g A S R) : w.cell? ⟨g, 2, none⟩ = some (.int .i64 R) := cell_of_row w g 2 _ 27 (0, 0) h
theorem Rck.below {w w' : World} {g : Nat} {A S R : Int} (h : Rck w g A S R) (hb : Below w.heap.size w w') : Rck w' g A S R := (hb.block g h.lt).trans h
theorem Rck.alloc {w : World} {g : Nat} {A S R : Int} (h : Rck w g A S R) (o : Obj) : Rck (w.alloc o) g A S R := (Below.heap_alloc w o g h.lt).trans h
theorem Rck.new (w : World) (A S R : Int) : Rck (w.alloc (.cells #[.int .i64 A, .int .i64 S, .int .i64 R] 27)) w.heap.size A S R := heap_alloc_new w _

set_option maxRecDepth 100000 in
set_option maxHeartbeats 6400000 in
theorem compares_neg (A S R A' S' R' t skew : Int) (w : World) (hn : newOk A S R = true) (hn' : newOk A' S' R' = true) (hs : skew ≤ 9223372036854775807) (h : skew < 0) :
    Calls Try.prog 6 #[rclk A S R, rclk A' S' R', .int .i64 t, .int .i64 skew] w (RetB w (.bool true)) := by
  have HN := Lib.hid hn
  have HN' := Lib.hid hn'
  have hB := newOk_B hn
  have hB' := newOk_B hn'
  clear hn hn'
  have he : witE A S R A' S' R' t skew = 2 := by simp [witE, h]
  have hb : witB A S R A' S' R' t skew = false := by simp [witB, he]
  go_enter Try.func6, Try.ntmps6
  go_wp2_with fail
  refine (new_ok _ _ _ _ HN.out).mono ?_; rintro e w1 ⟨g, rfl, hg, hk, hb⟩
  obtain ⟨⟨c0, c1, c2⟩, ⟨d0, d1, d2⟩, hz1, hz2⟩ := box2_cells hb
  go_wp2_with fail
  refine (new_ok _ _ _ _ HN'.out).mono ?_; rintro e w2 ⟨g', rfl, hg', hk', hb2⟩
  have hk := hk.below hb2
  have hb := hb.trans (hb2.mono hb.size)
  clear c0 c1 c2 d0 d1 d2 hz1 hz2
  obtain ⟨⟨c0, c1, c2⟩, ⟨d0, d1, d2⟩, hz1, hz2⟩ := box2_cells hb
  go_wp2_with fail
  refine (refnew_ok _ _ _ _ HN.out).mono ?_; rintro e w3 ⟨rfl, hb3⟩
  have hk := hk.below hb3
  have hk' := hk'.below hb3
  have hb := hb.trans (hb3.mono hb.size)
  clear c0 c1 c2 d0 d1 d2 hz1 hz2
  obtain ⟨⟨c0, c1, c2⟩, ⟨d0, d1, d2⟩, hz1, hz2⟩ := box2_cells hb
  go_wp2_with fail
  have hr := Rck.new w3 A S R
  refine (refnew_ok _ _ _ _ HN'.out).mono ?_; rintro e w4 ⟨rfl, hb4⟩
  have hk := (hk.alloc _).below hb4
  have hk' := (hk'.alloc _).below hb4
  have ha := hb.alloc hb.size (.cells #[.int .i64 A, .int .i64 S, .int .i64 R] 27)
  have hb := ha.trans (hb4.mono ha.size)
  clear c0 c1 c2 d0 d1 d2 hz1 hz2
  obtain ⟨⟨c0, c1, c2⟩, ⟨d0, d1, d2⟩, hz1, hz2⟩ := box2_cells hb
  have hr := (hr.below hb4).alloc (.cells #[.int .i64 A', .int .i64 S', .int .i64 R'] 27)
  have hq := Rck.new w4 A' S' R'
  go_wp2_with fail
  refine (within_any _ _ _ _ _ _ _ _ _ _ _ (hk.alloc _) (hk'.alloc _) hB hB' hs).mono ?_; rintro e w5 ⟨rfl, hb5⟩
  have hr := hr.below hb5
  have hq := hq.below hb5
  have ha := hb.alloc hb.size (.cells #[.int .i64 A', .int .i64 S', .int .i64 R'] 27)
  have hb := ha.trans (hb5.mono ha.size)
  clear c0 c1 c2 d0 d1 d2 hz1 hz2
  go_wp2_with fail
  refine (known47 _).mono ?_; rintro e wz ⟨rfl, hbz⟩
  go_wp2_with fail
  go_ret
  exact .bool rfl (below_trans (below_box2 hb) hbz)

set_option maxRecDepth 100000 in
set_option maxHeartbeats 6400000 in
theorem compares_e1 (A S R A' S' R' t skew : Int) (w : World) (hn : newOk A S R = true) (hn' : newOk A' S' R' = true) (hs : skew ≤ 9223372036854775807) (h : 0 ≤ skew) (h1 : showE A S R t ≠ 0) :
    Calls Try.prog 6 #[rclk A S R, rclk A' S' R', .int .i64 t, .int .i64 skew] w (RetB w (.bool true)) := by
  have HN := Lib.hid hn
  have HN' := Lib.hid hn'
  have hB := newOk_B hn
  have hB' := newOk_B hn'
  clear hn hn'
  have he : witE A S R A' S' R' t skew = showE A S R t := by simp [witE, Int.not_lt.2 h, h1]
  have hb : witB A S R A' S' R' t skew = false := by simp [witB, he, h1]
  have hz : (showE A S R t != 0) = true := by simpa using h1
  clear h1
  go_enter Try.func6, Try.ntmps6
  go_wp2_with fail
  refine (new_ok _ _ _ _ HN.out).mono ?_; rintro e w1 ⟨g, rfl, hg, hk, hb⟩
  obtain ⟨⟨c0, c1, c2⟩, ⟨d0, d1, d2⟩, hz1, hz2⟩ := box2_cells hb
  go_wp2_with fail
  refine (new_ok _ _ _ _ HN'.out).mono ?_; rintro e w2 ⟨g', rfl, hg', hk', hb2⟩
  have hk := hk.below hb2
  have hb := hb.trans (hb2.mono hb.size)
  clear c0 c1 c2 d0 d1 d2 hz1 hz2
  obtain ⟨⟨c0, c1, c2⟩, ⟨d0, d1, d2⟩, hz1, hz2⟩ := box2_cells hb
  go_wp2_with fail
  refine (refnew_ok _ _ _ _ HN.out).mono ?_; rintro e w3 ⟨rfl, hb3⟩
  have hk := hk.below hb3
  have hk' := hk'.below hb3
  have hb := hb.trans (hb3.mono hb.size)
  clear c0 c1 c2 d0 d1 d2 hz1 hz2
  obtain ⟨⟨c0, c1, c2⟩, ⟨d0, d1, d2⟩, hz1, hz2⟩ := box2_cells hb
  go_wp2_with fail
  have hr := Rck.new w3 A S R
  refine (refnew_ok _ _ _ _ HN'.out).mono ?_; rintro e w4 ⟨rfl, hb4⟩
  have hk := (hk.alloc _).below hb4
  have hk' := (hk'.alloc _).below hb4
  have ha := hb.alloc hb.size (.cells #[.int .i64 A, .int .i64 S, .int .i64 R] 27)
  have hb := ha.trans (hb4.mono ha.size)
  clear c0 c1 c2 d0 d1 d2 hz1 hz2
  obtain ⟨⟨c0, c1, c2⟩, ⟨d0, d1, d2⟩, hz1, hz2⟩ := box2_cells hb
  have hr := (hr.below hb4).alloc (.cells #[.int .i64 A', .int .i64 S', .int .i64 R'] 27)
  have hq := Rck.new w4 A' S' R'
  go_wp2_with fail
  refine (within_any _ _ _ _ _ _ _ _ _ _ _ (hk.alloc _) (hk'.alloc _) hB hB' hs).mono ?_; rintro e w5 ⟨rfl, hb5⟩
  have hr := hr.below hb5
  have hq := hq.below hb5
  have ha := hb.alloc hb.size (.cells #[.int .i64 A', .int .i64 S', .int .i64 R'] 27)
  have hb := ha.trans (hb5.mono ha.size)
  clear c0 c1 c2 d0 d1 d2 hz1 hz2
  have c0 := hr.c0
  have c1 := hr.c1
  have c2 := hr.c2
  go_wp2_with fail
  refine (refshow_any _ _ _ _ _ hB).mono ?_; rintro e w6 ⟨rfl, hb6⟩
  have hq := hq.below hb6
  clear c0 c1 c2
  have c0 := hq.c0
  have c1 := hq.c1
  have c2 := hq.c2
  have hb := hb.trans (hb6.mono hb.size)
  go_wp2_with fail
  refine (refshow_any _ _ _ _ _ hB').mono ?_; rintro e w7 ⟨rfl, hb7⟩
  have hb := hb.trans (hb7.mono hb.size)
  clear c0 c1 c2
  go_wp2_with fail
  refine (known47 _).mono ?_; rintro e wz ⟨rfl, hbz⟩
  go_wp2_with fail
  go_ret
  exact .bool rfl (below_trans (below_box2 hb) hbz)

set_option maxRecDepth 100000 in
set_option maxHeartbeats 6400000 in
theorem compares_e2 (A S R A' S' R' t skew : Int) (w : World) (hn : newOk A S R = true) (hn' : newOk A' S' R' = true) (hs : skew ≤ 9223372036854775807) (h : 0 ≤ skew) (h1 : showE A S R t = 0) (h2 : showE A' S' R' t ≠ 0) :
    Calls Try.prog 6 #[rclk A S R, rclk A' S' R', .int .i64 t, .int .i64 skew] w (RetB w (.bool true)) := by
  have HN := Lib.hid hn
  have HN' := Lib.hid hn'
  have hB := newOk_B hn
  have hB' := newOk_B hn'
  clear hn hn'
  have he : witE A S R A' S' R' t skew = showE A' S' R' t := by simp [witE, Int.not_lt.2 h, h1]
  have hb : witB A S R A' S' R' t skew = false := by simp [witB, he, h2]
  have hz : (showE A' S' R' t != 0) = true := by simpa using h2
  clear h2
  go_enter Try.func6, Try.ntmps6
  go_wp2_with fail
  refine (new_ok _ _ _ _ HN.out).mono ?_; rintro e w1 ⟨g, rfl, hg, hk, hb⟩
  obtain ⟨⟨c0, c1, c2⟩, ⟨d0, d1, d2⟩, hz1, hz2⟩ := box2_cells hb
  go_wp2_with fail
  refine (new_ok _ _ _ _ HN'.out).mono ?_; rintro e w2 ⟨g', rfl, hg', hk', hb2⟩
  have hk := hk.below hb2
  have hb := hb.trans (hb2.mono hb.size)
  clear c0 c1 c2 d0 d1 d2 hz1 hz2
  obtain ⟨⟨c0, c1, c2⟩, ⟨d0, d1, d2⟩, hz1, hz2⟩ := box2_cells hb
  go_wp2_with fail
  refine (refnew_ok _ _ _ _ HN.out).mono ?_; rintro e w3 ⟨rfl, hb3⟩
  have hk := hk.below hb3
  have hk' := hk'.below hb3
  have hb := hb.trans (hb3.mono hb.size)
  clear c0 c1 c2 d0 d1 d2 hz1 hz2
  obtain ⟨⟨c0, c1, c2⟩, ⟨d0, d1, d2⟩, hz1, hz2⟩ := box2_cells hb
  go_wp2_with fail
  have hr := Rck.new w3 A S R
  refine (refnew_ok _ _ _ _ HN'.out).mono ?_; rintro e w4 ⟨rfl, hb4⟩
  have hk := (hk.alloc _).below hb4
  have hk' := (hk'.alloc _).below hb4
  have ha := hb.alloc hb.size (.cells #[.int .i64 A, .int .i64 S, .int .i64 R] 27)
  have hb := ha.trans (hb4.mono ha.size)
  clear c0 c1 c2 d0 d1 d2 hz1 hz2
  obtain ⟨⟨c0, c1, c2⟩, ⟨d0, d1, d2⟩, hz1, hz2⟩ := box2_cells hb
  have hr := (hr.below hb4).alloc (.cells #[.int .i64 A', .int .i64 S', .int .i64 R'] 27)
  have hq := Rck.new w4 A' S' R'
  go_wp2_with fail
  refine (within_any _ _ _ _ _ _ _ _ _ _ _ (hk.alloc _) (hk'.alloc _) hB hB' hs).mono ?_; rintro e w5 ⟨rfl, hb5⟩
  have hr := hr.below hb5
  have hq := hq.below hb5
  have ha := hb.alloc hb.size (.cells #[.int .i64 A', .int .i64 S', .int .i64 R'] 27)
  have hb := ha.trans (hb5.mono ha.size)
  clear c0 c1 c2 d0 d1 d2 hz1 hz2
  have c0 := hr.c0
  have c1 := hr.c1
  have c2 := hr.c2
  go_wp2_with fail
  refine (refshow_any _ _ _ _ _ hB).mono ?_; rintro e w6 ⟨rfl, hb6⟩
  have hq := hq.below hb6
  clear c0 c1 c2
  have c0 := hq.c0
  have c1 := hq.c1
  have c2 := hq.c2
  have hb := hb.trans (hb6.mono hb.size)
  go_wp2_with fail
  refine (refshow_any _ _ _ _ _ hB').mono ?_; rintro e w7 ⟨rfl, hb7⟩
  have hb := hb.trans (hb7.mono hb.size)
  clear c0 c1 c2
  go_wp2_with fail
  refine (known47 _).mono ?_; rintro e wz ⟨rfl, hbz⟩
  go_wp2_with fail
  go_ret
  exact .bool rfl (below_trans (below_box2 hb) hbz)

set_option maxRecDepth 100000 in
set_option maxHeartbeats 6400000 in
theorem compares_yes (A S R A' S' R' t skew : Int) (w : World) (hn : newOk A S R = true) (hn' : newOk A' S' R' = true) (hs : skew ≤ 9223372036854775807) (h : 0 ≤ skew) (h1 : showE A S R t = 0) (h2 : showE A' S' R' t = 0) (h3 : showV A S R t - showV A' S' R' t ≤ skew) (h4 : showV A' S' R' t - showV A S R t ≤ skew) :
    Calls Try.prog 6 #[rclk A S R, rclk A' S' R', .int .i64 t, .int .i64 skew] w (RetB w (.bool true)) := by
  have HN := Lib.hid hn
  have HN' := Lib.hid hn'
  have hB := newOk_B hn
  have hB' := newOk_B hn'
  clear hn hn'
  have he : witE A S R A' S' R' t skew = 0 := by simp [witE, Int.not_lt.2 h, h1, h2]
  obtain ⟨-, -, -, v0, v1, -⟩ := showE_ok h1
  obtain ⟨-, -, -, v2, v3, -⟩ := showE_ok h2
  have hb : witB A S R A' S' R' t skew = true := by simp only [witB, he, if_true, inB_iff]; omega
  go_enter Try.func6, Try.ntmps6
  go_wp2_with fail
  refine (new_ok _ _ _ _ HN.out).mono ?_; rintro e w1 ⟨g, rfl, hg, hk, hb⟩
  obtain ⟨⟨c0, c1, c2⟩, ⟨d0, d1, d2⟩, hz1, hz2⟩ := box2_cells hb
  go_wp2_with fail
  refine (new_ok _ _ _ _ HN'.out).mono ?_; rintro e w2 ⟨g', rfl, hg', hk', hb2⟩
  have hk := hk.below hb2
  have hb := hb.trans (hb2.mono hb.size)
  clear c0 c1 c2 d0 d1 d2 hz1 hz2
  obtain ⟨⟨c0, c1, c2⟩, ⟨d0, d1, d2⟩, hz1, hz2⟩ := box2_cells hb
  go_wp2_with fail
  refine (refnew_ok _ _ _ _ HN.out).mono ?_; rintro e w3 ⟨rfl, hb3⟩
  have hk := hk.below hb3
  have hk' := hk'.below hb3
  have hb := hb.trans (hb3.mono hb.size)
  clear c0 c1 c2 d0 d1 d2 hz1 hz2
  obtain ⟨⟨c0, c1, c2⟩, ⟨d0, d1, d2⟩, hz1, hz2⟩ := box2_cells hb
  go_wp2_with fail
  have hr := Rck.new w3 A S R
  refine (refnew_ok _ _ _ _ HN'.out).mono ?_; rintro e w4 ⟨rfl, hb4⟩
  have hk := (hk.alloc _).below hb4
  have hk' := (hk'.alloc _).below hb4
  have ha := hb.alloc hb.size (.cells #[.int .i64 A, .int .i64 S, .int .i64 R] 27)
  have hb := ha.trans (hb4.mono ha.size)
  clear c0 c1 c2 d0 d1 d2 hz1 hz2
  obtain ⟨⟨c0, c1, c2⟩, ⟨d0, d1, d2⟩, hz1, hz2⟩ := box2_cells hb
  have hr := (hr.below hb4).alloc (.cells #[.int .i64 A', .int .i64 S', .int .i64 R'] 27)
  have hq := Rck.new w4 A' S' R'
  go_wp2_with fail
  refine (within_any _ _ _ _ _ _ _ _ _ _ _ (hk.alloc _) (hk'.alloc _) hB hB' hs).mono ?_; rintro e w5 ⟨rfl, hb5⟩
  have hr := hr.below hb5
  have hq := hq.below hb5
  have ha := hb.alloc hb.size (.cells #[.int .i64 A', .int .i64 S', .int .i64 R'] 27)
  have hb := ha.trans (hb5.mono ha.size)
  clear c0 c1 c2 d0 d1 d2 hz1 hz2
  have c0 := hr.c0
  have c1 := hr.c1
  have c2 := hr.c2
  go_wp2_with fail
  refine (refshow_any _ _ _ _ _ hB).mono ?_; rintro e w6 ⟨rfl, hb6⟩
  have hq := hq.below hb6
  clear c0 c1 c2
  have c0 := hq.c0
  have c1 := hq.c1
  have c2 := hq.c2
  have hb := hb.trans (hb6.mono hb.size)
  go_wp2_with fail
  refine (refshow_any _ _ _ _ _ hB').mono ?_; rintro e w7 ⟨rfl, hb7⟩
  have hb := hb.trans (hb7.mono hb.size)
  clear c0 c1 c2
  go_wp2_with fail
  refine (known47 _).mono ?_; rintro e wz ⟨rfl, hbz⟩
  go_wp2_with fail
  go_ret
  exact .bool rfl (below_trans (below_box2 hb) hbz)

set_option maxRecDepth 100000 in
set_option maxHeartbeats 6400000 in
theorem compares_no1 (A S R A' S' R' t skew : Int) (w : World) (hn : newOk A S R = true) (hn' : newOk A' S' R' = true) (hs : skew ≤ 9223372036854775807) (h : 0 ≤ skew) (h1 : showE A S R t = 0) (h2 : showE A' S' R' t = 0) (h3 : skew < showV A S R t - showV A' S' R' t) :
    Calls Try.prog 6 #[rclk A S R, rclk A' S' R', .int .i64 t, .int .i64 skew] w (RetB w (.bool true)) := by
  have HN := Lib.hid hn
  have HN' := Lib.hid hn'
  have hB := newOk_B hn
  have hB' := newOk_B hn'
  clear hn hn'
  have he : witE A S R A' S' R' t skew = 0 := by simp [witE, Int.not_lt.2 h, h1, h2]
  obtain ⟨-, -, -, v0, v1, -⟩ := showE_ok h1
  obtain ⟨-, -, -, v2, v3, -⟩ := showE_ok h2
  have hb : witB A S R A' S' R' t skew = false := by simp only [witB, he, if_true, inB_f]; omega
  go_enter Try.func6, Try.ntmps6
  go_wp2_with fail
  refine (new_ok _ _ _ _ HN.out).mono ?_; rintro e w1 ⟨g, rfl, hg, hk, hb⟩
  obtain ⟨⟨c0, c1, c2⟩, ⟨d0, d1, d2⟩, hz1, hz2⟩ := box2_cells hb
  go_wp2_with fail
  refine (new_ok _ _ _ _ HN'.out).mono ?_; rintro e w2 ⟨g', rfl, hg', hk', hb2⟩
  have hk := hk.below hb2
  have hb := hb.trans (hb2.mono hb.size)
  clear c0 c1 c2 d0 d1 d2 hz1 hz2
  obtain ⟨⟨c0, c1, c2⟩, ⟨d0, d1, d2⟩, hz1, hz2⟩ := box2_cells hb
  go_wp2_with fail
  refine (refnew_ok _ _ _ _ HN.out).mono ?_; rintro e w3 ⟨rfl, hb3⟩
  have hk := hk.below hb3
  have hk' := hk'.below hb3
  have hb := hb.trans (hb3.mono hb.size)
  clear c0 c1 c2 d0 d1 d2 hz1 hz2
  obtain ⟨⟨c0, c1, c2⟩, ⟨d0, d1, d2⟩, hz1, hz2⟩ := box2_cells hb
  go_wp2_with fail
  have hr := Rck.new w3 A S R
  refine (refnew_ok _ _ _ _ HN'.out).mono ?_; rintro e w4 ⟨rfl, hb4⟩
  have hk := (hk.alloc _).below hb4
  have hk' := (hk'.alloc _).below hb4
  have ha := hb.alloc hb.size (.cells #[.int .i64 A, .int .i64 S, .int .i64 R] 27)
  have hb := ha.trans (hb4.mono ha.size)
  clear c0 c1 c2 d0 d1 d2 hz1 hz2
  obtain ⟨⟨c0, c1, c2⟩, ⟨d0, d1, d2⟩, hz1, hz2⟩ := box2_cells hb
  have hr := (hr.below hb4).alloc (.cells #[.int .i64 A', .int .i64 S', .int .i64 R'] 27)
  have hq := Rck.new w4 A' S' R'
  go_wp2_with fail
  refine (within_any _ _ _ _ _ _ _ _ _ _ _ (hk.alloc _) (hk'.alloc _) hB hB' hs).mono ?_; rintro e w5 ⟨rfl, hb5⟩
  have hr := hr.below hb5
  have hq := hq.below hb5
  have ha := hb.alloc hb.size (.cells #[.int .i64 A', .int .i64 S', .int .i64 R'] 27)
  have hb := ha.trans (hb5.mono ha.size)
  clear c0 c1 c2 d0 d1 d2 hz1 hz2
  have c0 := hr.c0
  have c1 := hr.c1
  have c2 := hr.c2
  go_wp2_with fail
  refine (refshow_any _ _ _ _ _ hB).mono ?_; rintro e w6 ⟨rfl, hb6⟩
  have hq := hq.below hb6
  clear c0 c1 c2
  have c0 := hq.c0
  have c1 := hq.c1
  have c2 := hq.c2
  have hb := hb.trans (hb6.mono hb.size)
  go_wp2_with fail
  refine (refshow_any _ _ _ _ _ hB').mono ?_; rintro e w7 ⟨rfl, hb7⟩
  have hb := hb.trans (hb7.mono hb.size)
  clear c0 c1 c2
  go_wp2_with fail
  refine (known47 _).mono ?_; rintro e wz ⟨rfl, hbz⟩
  go_wp2_with fail
  go_ret
  exact .bool rfl (below_trans (below_box2 hb) hbz)

set_option maxRecDepth 100000 in
set_option maxHeartbeats 6400000 in
theorem compares_no2 (A S R A' S' R' t skew : Int) (w : World) (hn : newOk A S R = true) (hn' : newOk A' S' R' = true) (hs : skew ≤ 9223372036854775807) (h : 0 ≤ skew) (h1 : showE A S R t = 0) (h2 : showE A' S' R' t = 0) (h3 : showV A S R t - showV A' S' R' t ≤ skew) (h4 : skew < showV A' S' R' t - showV A S R t) :
    Calls Try.prog 6 #[rclk A S R, rclk A' S' R', .int .i64 t, .int .i64 skew] w (RetB w (.bool true)) := by
  have HN := Lib.hid hn
  have HN' := Lib.hid hn'
  have hB := newOk_B hn
  have hB' := newOk_B hn'
  clear hn hn'
  have he : witE A S R A' S' R' t skew = 0 := by simp [witE, Int.not_lt.2 h, h1, h2]
  obtain ⟨-, -, -, v0, v1, -⟩ := showE_ok h1
  obtain ⟨-, -, -, v2, v3, -⟩ := showE_ok h2
  have hb : witB A S R A' S' R' t skew = false := by simp only [witB, he, if_true, inB_f]; omega
  go_enter Try.func6, Try.ntmps6
  go_wp2_with fail
  refine (new_ok _ _ _ _ HN.out).mono ?_; rintro e w1 ⟨g, rfl, hg, hk, hb⟩
  obtain ⟨⟨c0, c1, c2⟩, ⟨d0, d1, d2⟩, hz1, hz2⟩ := box2_cells hb
  go_wp2_with fail
  refine (new_ok _ _ _ _ HN'.out).mono ?_; rintro e w2 ⟨g', rfl, hg', hk', hb2⟩
  have hk := hk.below hb2
  have hb := hb.trans (hb2.mono hb.size)
  clear c0 c1 c2 d0 d1 d2 hz1 hz2
  obtain ⟨⟨c0, c1, c2⟩, ⟨d0, d1, d2⟩, hz1, hz2⟩ := box2_cells hb
  go_wp2_with fail
  refine (refnew_ok _ _ _ _ HN.out).mono ?_; rintro e w3 ⟨rfl, hb3⟩
  have hk := hk.below hb3
  have hk' := hk'.below hb3
  have hb := hb.trans (hb3.mono hb.size)
  clear c0 c1 c2 d0 d1 d2 hz1 hz2
  obtain ⟨⟨c0, c1, c2⟩, ⟨d0, d1, d2⟩, hz1, hz2⟩ := box2_cells hb
  go_wp2_with fail
  have hr := Rck.new w3 A S R
  refine (refnew_ok _ _ _ _ HN'.out).mono ?_; rintro e w4 ⟨rfl, hb4⟩
  have hk := (hk.alloc _).below hb4
  have hk' := (hk'.alloc _).below hb4
  have ha := hb.alloc hb.size (.cells #[.int .i64 A, .int .i64 S, .int .i64 R] 27)
  have hb := ha.trans (hb4.mono ha.size)
  clear c0 c1 c2 d0 d1 d2 hz1 hz2
  obtain ⟨⟨c0, c1, c2⟩, ⟨d0, d1, d2⟩, hz1, hz2⟩ := box2_cells hb
  have hr := (hr.below hb4).alloc (.cells #[.int .i64 A', .int .i64 S', .int .i64 R'] 27)
  have hq := Rck.new w4 A' S' R'
  go_wp2_with fail
  refine (within_any _ _ _ _ _ _ _ _ _ _ _ (hk.alloc _) (hk'.alloc _) hB hB' hs).mono ?_; rintro e w5 ⟨rfl, hb5⟩
  have hr := hr.below hb5
  have hq := hq.below hb5
  have ha := hb.alloc hb.size (.cells #[.int .i64 A', .int .i64 S', .int .i64 R'] 27)
  have hb := ha.trans (hb5.mono ha.size)
  clear c0 c1 c2 d0 d1 d2 hz1 hz2
  have c0 := hr.c0
  have c1 := hr.c1
  have c2 := hr.c2
  go_wp2_with fail
  refine (refshow_any _ _ _ _ _ hB).mono ?_; rintro e w6 ⟨rfl, hb6⟩
  have hq := hq.below hb6
  clear c0 c1 c2
  have c0 := hq.c0
  have c1 := hq.c1
  have c2 := hq.c2
  have hb := hb.trans (hb6.mono hb.size)
  go_wp2_with fail
  refine (refshow_any _ _ _ _ _ hB').mono ?_; rintro e w7 ⟨rfl, hb7⟩
  have hb := hb.trans (hb7.mono hb.size)
  clear c0 c1 c2
  go_wp2_with fail
  refine (known47 _).mono ?_; rintro e wz ⟨rfl, hbz⟩
  go_wp2_with fail
  go_ret
  exact .bool (by simp; omega) (below_trans (below_box2 hb) hbz)

theorem law_compares (A S R A' S' R' t skew : Int) (w : World) (hs : skew ≤ 9223372036854775807) :
    Calls Try.prog 6 #[rclk A S R, rclk A' S' R', .int .i64 t, .int .i64 skew] w (RetB w (.bool true)) := by
  rcases hn : newOk A S R with _ | _
  · exact compares_bad A S R A' S' R' t skew w hn
  rcases hn' : newOk A' S' R' with _ | _
  · exact compares_one A S R A' S' R' t skew w hn hn'
  by_cases h : skew < 0
  · exact compares_neg A S R A' S' R' t skew w hn hn' hs h
  by_cases h1 : showE A S R t = 0
  · by_cases h2 : showE A' S' R' t = 0
    · by_cases h3 : showV A S R t - showV A' S' R' t ≤ skew
      · by_cases h4 : showV A' S' R' t - showV A S R t ≤ skew
        · exact compares_yes A S R A' S' R' t skew w hn hn' hs (by omega) h1 h2 h3 h4
        · exact compares_no2 A S R A' S' R' t skew w hn hn' hs (by omega) h1 h2 h3 (by omega)
      · exact compares_no1 A S R A' S' R' t skew w hn hn' hs (by omega) h1 h2 (by omega)
    · exact compares_e2 A S R A' S' R' t skew w hn hn' hs (by omega) h1 h2
  · exact compares_e1 A S R A' S' R' t skew w hn hn' hs (by omega) h1

end Go.Proofs.Yticnklmpplicfaa
