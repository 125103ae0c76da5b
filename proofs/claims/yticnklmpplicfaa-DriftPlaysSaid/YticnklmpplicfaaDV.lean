/- The contract of do of law 47: a call on the clock and on the reference leaves both in one state. -/
import Derived.Test.YticnklmpplicfaaDU
import Derived.Deep.RegionHeld3
import Derived.Test.YticnklmpplicfaaKept
namespace Go.Proofs.Yticnklmpplicfaa
open Go.RowKit

/-- Block g holds an Act of law 47. -/
def Xcl (w : World) (g : Nat) (A S R : Int) : Prop := w.heap[g]? = some (.cells #[.int .i64 A, .int .i64 S, .int .i64 R] 41 (0, 0))
section
variable {w w' : World} {g : Nat} {A S R : Int}
theorem Xcl.lt (h : Xcl w g A S R) : g < w.heap.size := by
  rcases Nat.lt_or_ge g w.heap.size with hlt | hge
  · exact hlt
  · unfold Xcl at h; rw [Array.getElem?_eq_none hge] at h; cases h
theorem Xcl.cs (h : Xcl w g A S R) : w.cell? ⟨g, 0, none⟩ = some (.int .i64 A) ∧ w.cell? ⟨g, 1, none⟩ = some (.int .i64 S) ∧ w.cell? ⟨g, 2, none⟩ = some (.int .i64 R) :=
  ⟨cell_of_row w g 0 _ 41 (0, 0) h, cell_of_row w g 1 _ 41 (0, 0) h, cell_of_row w g 2 _ 41 (0, 0) h⟩
theorem Xcl.below (h : Xcl w g A S R) (hb : Below w.heap.size w w') : Xcl w' g A S R := (hb.block g h.lt).trans h
theorem Xcl.only {g' : Nat} (h : Xcl w g A S R) (hg : w.grownBy w' (some g')) (hne : g ≠ g') : Xcl w' g A S R := (hg.block g h.lt (fun e => hne (by injection e))).trans h
theorem Xcl.alloc (h : Xcl w g A S R) (o : Obj) : Xcl (w.alloc o) g A S R := (Below.heap_alloc w o g h.lt).trans h
theorem Xcl.new (w : World) (A S R : Int) (g : Nat) (hg : w.heap.size = g) : Xcl (w.alloc (.cells #[.int .i64 A, .int .i64 S, .int .i64 R] 41)) g A S R := by subst hg; exact heap_alloc_new w _
end

/-- The memory of do behind its prologue: the boxes of its arguments at s, s + 1, the place of the result at s + 2, the reference's next state at s + 3, the clock at g. -/
structure DoMem (w : World) (s g : Nat) (A S R x y z A' S' R' : Int) : Prop where
  r : Rcl w s A S R
  x : Xcl w (s + 1) x y z
  o : Rcl w (s + 1 + 1) 0 0 0
  n : Rcl w (s + 1 + 1 + 1) A' S' R'
  lt : g < s
  k : Clk w g A' S' R'

theorem DoMem.start (w : World) (g : Nat) (A S R x y z : Int) (hk : Clk w g A S R) :
    DoMem ((((w.alloc (.cells #[.int .i64 A, .int .i64 S, .int .i64 R] 27)).alloc (.cells #[.int .i64 x, .int .i64 y, .int .i64 z] 41)).alloc (.cells #[.int .i64 0, .int .i64 0, .int .i64 0] 27)).alloc (.cells #[.int .i64 A, .int .i64 S, .int .i64 R] 27)) w.heap.size g A S R x y z A S R :=
  ⟨(((Rcl.new w A S R _ rfl).alloc _).alloc _).alloc _, (((Xcl.new _ x y z _ (by simp)).alloc _).alloc _), (Rcl.new _ 0 0 0 _ (by simp)).alloc _, Rcl.new _ A S R _ (by simp), hk.lt, (((hk.alloc _).alloc _).alloc _).alloc _⟩

theorem Clk.far {w : World} {g : Nat} {A S R : Int} (h : Clk w g A S R) {s : Nat} (hne : g ≠ s) (i : Nat) (u : Value) : Clk (w.setCell ⟨s, i, none⟩ u) g A S R := (Below.heap_setCell w ⟨s, i, none⟩ u g hne).trans h

/-- What do gives: a clock and the reference's clock in one state. -/
def Played (g0 : Nat) (W : World) (e : Ending) (w' : World) : Prop :=
  ∃ g A S R, e = .returned (.tuple #[.pointer (some ⟨g, 0, none⟩), rclk A S R, .bool true]) ∧ (g = g0 ∨ W.heap.size ≤ g) ∧ Clk w' g A S R ∧ CkB A S R ∧ Kept (· = g0) W w'

set_option maxRecDepth 100000 in
set_option maxHeartbeats 3200000 in
theorem do_other (g : Nat) (A S R x y z : Int) (w : World) (hk : Clk w g A S R) (hB : CkB A S R) (hx0 : (x == 0) = false) (hx1 : (x == 1) = false) (hx2 : (x == 2) = false) :
    Calls Try.prog 16 #[.pointer (some ⟨g, 0, none⟩), rclk A S R, .agg #[.int .i64 x, .int .i64 y, .int .i64 z]] w (Played g w) := by
  have hD := DoMem.start w g A S R x y z hk
  have hL := hk.lt
  have hW : Kept (· = g) w ((((w.alloc (.cells #[.int .i64 A, .int .i64 S, .int .i64 R] 27)).alloc (.cells #[.int .i64 x, .int .i64 y, .int .i64 z] 41)).alloc (.cells #[.int .i64 0, .int .i64 0, .int .i64 0] 27)).alloc (.cells #[.int .i64 A, .int .i64 S, .int .i64 R] 27)) :=
    Kept.of_below (below_alloc (below_alloc (below_alloc (below1 _ _) _) _) _)
  clear hk
  go_enter Try.func16, Try.ntmps16
  go_wp2_with fail
  generalize (((w.alloc (.cells #[.int .i64 A, .int .i64 S, .int .i64 R] 27)).alloc (.cells #[.int .i64 x, .int .i64 y, .int .i64 z] 41)).alloc (.cells #[.int .i64 0, .int .i64 0, .int .i64 0] 27)).alloc (.cells #[.int .i64 A, .int .i64 S, .int .i64 R] 27) = W0 at hD hW ⊢
  obtain ⟨n0, n1, n2⟩ := hD.n.cs
  obtain ⟨-, x1, -⟩ := hD.x.cs
  have HD := Lib.hid hD
  clear hD
  go_region_held3 (fun w' => w'.cell? ⟨w.heap.size + 1, 1, none⟩ = some (.int .i64 y) ∧ w'.cell? ⟨w.heap.size + 1 + 1 + 1, 0, none⟩ = some (.int .i64 A) ∧ w'.cell? ⟨w.heap.size + 1 + 1 + 1, 1, none⟩ = some (.int .i64 S) ∧ w'.cell? ⟨w.heap.size + 1 + 1 + 1, 2, none⟩ = some (.int .i64 R))
    (go_keep)
    (first
      | (go_at_call 15; ((with_reducible refine (agrees_any _ _ _ _ _ _ (HD.out.k.drew) hB).mono ?_); rintro e w1 ⟨rfl, hb1⟩; have h1 := (HD.out.x.below (w := W0.drew) hb1).cs.2.1; have h2 := (HD.out.n.below (w := W0.drew) hb1).cs; obtain ⟨h2, h3, h4⟩ := h2; have h5 := (HD.out.o.below (w := W0.drew) hb1).cs; obtain ⟨h5, h6, h7⟩ := h5; have h8 := (HD.out.o.below (w := W0.drew) hb1).free; obtain ⟨h8, h9, h10⟩ := h8; have h11 := (HD.out.n.below (w := W0.drew) hb1).lt)))
  go_wp2_with fail
  refine bodyPost_ret (v := .tuple #[.pointer (some ⟨g, 0, none⟩), rclk A S R, .bool true]) (by simp [results, Try.results16, go_sem, h5, h6, h7]) rfl ⟨g, A, S, R, rfl, .inl rfl, ?_, hB, ?_⟩
  · exact (((HD.out.k.drew.below hb1).far (by omega) _ _).far (by omega) _ _).far (by omega) _ _
  · exact ((((hW.drew).trans (.of_below hb1)).setCell (by simp; omega) _).setCell (by simp; omega) _).setCell (by simp; omega) _

theorem Rcl.setAll {w : World} {g : Nat} {A S R : Int} (h : Rcl w g A S R) (A' S' R' : Int) :
    Rcl (((w.setCell ⟨g, 0, none⟩ (.int .i64 A')).setCell ⟨g, 1, none⟩ (.int .i64 S')).setCell ⟨g, 2, none⟩ (.int .i64 R')) g A' S' R' :=
  set_cell_block (set_cell_block (set_cell_block h _) _) _
theorem Rcl.far {w : World} {g : Nat} {A S R : Int} (h : Rcl w g A S R) {s : Nat} (hne : g ≠ s) (i : Nat) (u : Value) : Rcl (w.setCell ⟨s, i, none⟩ u) g A S R := (Below.heap_setCell w ⟨s, i, none⟩ u g hne).trans h
theorem Xcl.far {w : World} {g : Nat} {A S R : Int} (h : Xcl w g A S R) {s : Nat} (hne : g ≠ s) (i : Nat) (u : Value) : Xcl (w.setCell ⟨s, i, none⟩ u) g A S R := (Below.heap_setCell w ⟨s, i, none⟩ u g hne).trans h
/-- Behind the call on the clock, the call on the reference and the store of the reference's next state. -/
theorem DoMem.next {w0 w1 w2 : World} {s g : Nat} {A S R x y z A' S' R' : Int} (h : DoMem w0 s g A S R x y z A S R) (hg : w0.grownBy w1 (some g)) (hk : Clk w1 g A' S' R') (hb : Below w1.heap.size w1 w2) :
    DoMem (((w2.setCell ⟨s + 1 + 1 + 1, 0, none⟩ (.int .i64 A')).setCell ⟨s + 1 + 1 + 1, 1, none⟩ (.int .i64 S')).setCell ⟨s + 1 + 1 + 1, 2, none⟩ (.int .i64 R')) s g A S R x y z A' S' R' := by
  have hl := h.lt
  refine ⟨?_, ?_, ?_, ?_, hl, ?_⟩
  · exact ((((h.r.only hg (by omega)).below hb).far (by omega) _ _).far (by omega) _ _).far (by omega) _ _
  · exact ((((h.x.only hg (by omega)).below hb).far (by omega) _ _).far (by omega) _ _).far (by omega) _ _
  · exact ((((h.o.only hg (by omega)).below hb).far (by omega) _ _).far (by omega) _ _).far (by omega) _ _
  · exact ((h.n.only hg (by omega)).below hb).setAll A' S' R'
  · exact (((hk.below hb).far (by omega) _ _).far (by omega) _ _).far (by omega) _ _

set_option maxRecDepth 100000 in
set_option maxHeartbeats 6400000 in
theorem do_step (g : Nat) (A S R y z : Int) (w : World) (hk : Clk w g A S R) (hB : CkB A S R) :
    Calls Try.prog 16 #[.pointer (some ⟨g, 0, none⟩), rclk A S R, .agg #[.int .i64 0, .int .i64 y, .int .i64 z]] w (Played g w) := by
  have hD := DoMem.start w g A S R 0 y z hk
  have hL := hk.lt
  have hW : Kept (· = g) w ((((w.alloc (.cells #[.int .i64 A, .int .i64 S, .int .i64 R] 27)).alloc (.cells #[.int .i64 0, .int .i64 y, .int .i64 z] 41)).alloc (.cells #[.int .i64 0, .int .i64 0, .int .i64 0] 27)).alloc (.cells #[.int .i64 A, .int .i64 S, .int .i64 R] 27)) :=
    Kept.of_below (below_alloc (below_alloc (below_alloc (below1 _ _) _) _) _)
  clear hk
  go_enter Try.func16, Try.ntmps16
  go_wp2_with fail
  generalize hW0 : ((((w.alloc (.cells #[.int .i64 A, .int .i64 S, .int .i64 R] 27)).alloc (.cells #[.int .i64 0, .int .i64 y, .int .i64 z] 41)).alloc (.cells #[.int .i64 0, .int .i64 0, .int .i64 0] 27)).alloc (.cells #[.int .i64 A, .int .i64 S, .int .i64 R] 27)) = W0 at hD hW ⊢
  clear hW0
  refine (step_any g A S R y z W0 hD.k hB).mono ?_; rintro e w1 ⟨rfl, hk1, hg1⟩
  have hlt := hD.lt
  obtain ⟨r0, r1, r2⟩ := (hD.r.only hg1 (by omega)).cs
  obtain ⟨-, x1, x2⟩ := (hD.x.only hg1 (by omega)).cs
  have HD := Lib.hid hD
  have HK := Lib.hid hk1
  clear hD hk1
  go_wp2_with fail
  refine (refstep_any _ _ _ _ _ _ hB).mono ?_; rintro e w2 ⟨rfl, hb2⟩
  have hn := (HD.out.n.only hg1 (by omega)).below hb2
  obtain ⟨n0, n1, n2⟩ := hn.cs
  obtain ⟨f0, f1, f2⟩ := hn.free
  have l1 := hn.lt
  clear hn r0 r1 r2 x1 x2
  go_wp2_with fail
  have hD := HD.out.next hg1 HK.out hb2
  have hW1 : Kept (· = g) w w1 := hW.trans (.of_grown hg1 rfl)
  have hW : Kept (· = g) w (((w2.setCell ⟨w.heap.size + 1 + 1 + 1, 0, none⟩ (.int .i64 (stepA A S R y z))).setCell ⟨w.heap.size + 1 + 1 + 1, 1, none⟩ (.int .i64 (stepS A S R y z))).setCell ⟨w.heap.size + 1 + 1 + 1, 2, none⟩ (.int .i64 (R))) :=
    (((hW1.trans (.of_below hb2)).setCell (by simp; omega) _).setCell (by simp; omega) _).setCell (by simp; omega) _
  have hB' := step_B (t := y) (b := z) hB
  clear n0 n1 n2 f0 f1 f2 HD HK hg1 hW1
  generalize ((w2.setCell ⟨w.heap.size + 1 + 1 + 1, 0, none⟩ (.int .i64 (stepA A S R y z))).setCell ⟨w.heap.size + 1 + 1 + 1, 1, none⟩ (.int .i64 (stepS A S R y z))).setCell ⟨w.heap.size + 1 + 1 + 1, 2, none⟩ (.int .i64 (R)) = W3 at hD hW ⊢
  obtain ⟨n0, n1, n2⟩ := hD.n.cs
  obtain ⟨-, x1, -⟩ := hD.x.cs
  have HD := Lib.hid hD
  clear hD
  go_region_held3 (fun w' => w'.cell? ⟨w.heap.size + 1, 1, none⟩ = some (.int .i64 y) ∧ w'.cell? ⟨w.heap.size + 1 + 1 + 1, 0, none⟩ = some (.int .i64 (stepA A S R y z)) ∧ w'.cell? ⟨w.heap.size + 1 + 1 + 1, 1, none⟩ = some (.int .i64 (stepS A S R y z)) ∧ w'.cell? ⟨w.heap.size + 1 + 1 + 1, 2, none⟩ = some (.int .i64 (R)))
    (go_keep)
    (first
      | (go_at_call 15; ((with_reducible refine (agrees_any _ _ _ _ _ _ (HD.out.k.drew) hB').mono ?_); rintro e w4 ⟨rfl, hb1⟩; have h1 := (HD.out.x.below (w := W3.drew) hb1).cs.2.1; have h2 := (HD.out.n.below (w := W3.drew) hb1).cs; obtain ⟨h2, h3, h4⟩ := h2; have h5 := (HD.out.o.below (w := W3.drew) hb1).cs; obtain ⟨h5, h6, h7⟩ := h5; have h8 := (HD.out.o.below (w := W3.drew) hb1).free; obtain ⟨h8, h9, h10⟩ := h8; have h11 := (HD.out.n.below (w := W3.drew) hb1).lt)))
  go_wp2_with fail
  refine bodyPost_ret (v := .tuple #[.pointer (some ⟨g, 0, none⟩), rclk (stepA A S R y z) (stepS A S R y z) (R), .bool true]) (by simp [results, Try.results16, go_sem, h5, h6, h7]) rfl ⟨g, _, _, _, rfl, .inl rfl, ?_, hB', ?_⟩
  · exact (((HD.out.k.drew.below hb1).far (by omega) _ _).far (by omega) _ _).far (by omega) _ _
  · exact ((((hW.drew).trans (.of_below hb1)).setCell (by simp; omega) _).setCell (by simp; omega) _).setCell (by simp; omega) _

set_option maxRecDepth 100000 in
set_option maxHeartbeats 6400000 in
theorem do_set (g : Nat) (A S R y z : Int) (w : World) (hk : Clk w g A S R) (hB : CkB A S R) :
    Calls Try.prog 16 #[.pointer (some ⟨g, 0, none⟩), rclk A S R, .agg #[.int .i64 1, .int .i64 y, .int .i64 z]] w (Played g w) := by
  have hD := DoMem.start w g A S R 1 y z hk
  have hL := hk.lt
  have hW : Kept (· = g) w ((((w.alloc (.cells #[.int .i64 A, .int .i64 S, .int .i64 R] 27)).alloc (.cells #[.int .i64 1, .int .i64 y, .int .i64 z] 41)).alloc (.cells #[.int .i64 0, .int .i64 0, .int .i64 0] 27)).alloc (.cells #[.int .i64 A, .int .i64 S, .int .i64 R] 27)) :=
    Kept.of_below (below_alloc (below_alloc (below_alloc (below1 _ _) _) _) _)
  clear hk
  go_enter Try.func16, Try.ntmps16
  go_wp2_with fail
  generalize hW0 : ((((w.alloc (.cells #[.int .i64 A, .int .i64 S, .int .i64 R] 27)).alloc (.cells #[.int .i64 1, .int .i64 y, .int .i64 z] 41)).alloc (.cells #[.int .i64 0, .int .i64 0, .int .i64 0] 27)).alloc (.cells #[.int .i64 A, .int .i64 S, .int .i64 R] 27)) = W0 at hD hW ⊢
  clear hW0
  refine (set_any g A S R y z W0 hD.k hB).mono ?_; rintro e w1 ⟨rfl, hk1, hg1⟩
  have hlt := hD.lt
  obtain ⟨r0, r1, r2⟩ := (hD.r.only hg1 (by omega)).cs
  obtain ⟨-, x1, x2⟩ := (hD.x.only hg1 (by omega)).cs
  have HD := Lib.hid hD
  have HK := Lib.hid hk1
  clear hD hk1
  go_wp2_with fail
  refine (refset_any _ _ _ _ _ _ hB).mono ?_; rintro e w2 ⟨rfl, hb2⟩
  have hn := (HD.out.n.only hg1 (by omega)).below hb2
  obtain ⟨n0, n1, n2⟩ := hn.cs
  obtain ⟨f0, f1, f2⟩ := hn.free
  have l1 := hn.lt
  clear hn r0 r1 r2 x1 x2
  go_wp2_with fail
  have hD := HD.out.next hg1 HK.out hb2
  have hW1 : Kept (· = g) w w1 := hW.trans (.of_grown hg1 rfl)
  have hW : Kept (· = g) w (((w2.setCell ⟨w.heap.size + 1 + 1 + 1, 0, none⟩ (.int .i64 (setA A S R y z))).setCell ⟨w.heap.size + 1 + 1 + 1, 1, none⟩ (.int .i64 (setS A S R y z))).setCell ⟨w.heap.size + 1 + 1 + 1, 2, none⟩ (.int .i64 (setR A S R y z))) :=
    (((hW1.trans (.of_below hb2)).setCell (by simp; omega) _).setCell (by simp; omega) _).setCell (by simp; omega) _
  have hB' := set_B (t := y) (r := z) hB
  clear n0 n1 n2 f0 f1 f2 HD HK hg1 hW1
  generalize ((w2.setCell ⟨w.heap.size + 1 + 1 + 1, 0, none⟩ (.int .i64 (setA A S R y z))).setCell ⟨w.heap.size + 1 + 1 + 1, 1, none⟩ (.int .i64 (setS A S R y z))).setCell ⟨w.heap.size + 1 + 1 + 1, 2, none⟩ (.int .i64 (setR A S R y z)) = W3 at hD hW ⊢
  obtain ⟨n0, n1, n2⟩ := hD.n.cs
  obtain ⟨-, x1, -⟩ := hD.x.cs
  have HD := Lib.hid hD
  clear hD
  go_region_held3 (fun w' => w'.cell? ⟨w.heap.size + 1, 1, none⟩ = some (.int .i64 y) ∧ w'.cell? ⟨w.heap.size + 1 + 1 + 1, 0, none⟩ = some (.int .i64 (setA A S R y z)) ∧ w'.cell? ⟨w.heap.size + 1 + 1 + 1, 1, none⟩ = some (.int .i64 (setS A S R y z)) ∧ w'.cell? ⟨w.heap.size + 1 + 1 + 1, 2, none⟩ = some (.int .i64 (setR A S R y z)))
    (go_keep)
    (first
      | (go_at_call 15; ((with_reducible refine (agrees_any _ _ _ _ _ _ (HD.out.k.drew) hB').mono ?_); rintro e w4 ⟨rfl, hb1⟩; have h1 := (HD.out.x.below (w := W3.drew) hb1).cs.2.1; have h2 := (HD.out.n.below (w := W3.drew) hb1).cs; obtain ⟨h2, h3, h4⟩ := h2; have h5 := (HD.out.o.below (w := W3.drew) hb1).cs; obtain ⟨h5, h6, h7⟩ := h5; have h8 := (HD.out.o.below (w := W3.drew) hb1).free; obtain ⟨h8, h9, h10⟩ := h8; have h11 := (HD.out.n.below (w := W3.drew) hb1).lt)))
  go_wp2_with fail
  refine bodyPost_ret (v := .tuple #[.pointer (some ⟨g, 0, none⟩), rclk (setA A S R y z) (setS A S R y z) (setR A S R y z), .bool true]) (by simp [results, Try.results16, go_sem, h5, h6, h7]) rfl ⟨g, _, _, _, rfl, .inl rfl, ?_, hB', ?_⟩
  · exact (((HD.out.k.drew.below hb1).far (by omega) _ _).far (by omega) _ _).far (by omega) _ _
  · exact ((((hW.drew).trans (.of_below hb1)).setCell (by simp; omega) _).setCell (by simp; omega) _).setCell (by simp; omega) _

end Go.Proofs.Yticnklmpplicfaa
