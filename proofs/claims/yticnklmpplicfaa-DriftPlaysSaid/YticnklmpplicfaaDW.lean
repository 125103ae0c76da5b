/- The contract of do of law 47 at Copy, and of do at every call. -/
import Derived.Test.YticnklmpplicfaaDV
import Derived.Test.YticnklmpplicfaaL2
namespace Go.Proofs.Yticnklmpplicfaa
open Go.RowKit

theorem addr_ne {a b : Nat} (i j : Nat) (s t : Option Nat) (h : a ≠ b) : (⟨a, i, s⟩ : Addr) ≠ ⟨b, j, t⟩ := fun e => h (congrArg Addr.block e)

set_option maxRecDepth 100000 in
set_option maxHeartbeats 6400000 in
theorem do_copy (g : Nat) (A S R y z : Int) (w : World) (hk : Clk w g A S R) (hB : CkB A S R) :
    Calls Try.prog 16 #[.pointer (some ⟨g, 0, none⟩), rclk A S R, .agg #[.int .i64 2, .int .i64 y, .int .i64 z]] w (Played g w) := by
  have hD := DoMem.start w g A S R 2 y z hk
  have hL := hk.lt
  have hW : Kept (· = g) w ((((w.alloc (.cells #[.int .i64 A, .int .i64 S, .int .i64 R] 27)).alloc (.cells #[.int .i64 2, .int .i64 y, .int .i64 z] 41)).alloc (.cells #[.int .i64 0, .int .i64 0, .int .i64 0] 27)).alloc (.cells #[.int .i64 A, .int .i64 S, .int .i64 R] 27)) :=
    Kept.of_below (below_alloc (below_alloc (below_alloc (below1 _ _) _) _) _)
  clear hk
  go_enter Try.func16, Try.ntmps16
  go_wp2_with fail
  generalize hW0 : ((((w.alloc (.cells #[.int .i64 A, .int .i64 S, .int .i64 R] 27)).alloc (.cells #[.int .i64 2, .int .i64 y, .int .i64 z] 41)).alloc (.cells #[.int .i64 0, .int .i64 0, .int .i64 0] 27)).alloc (.cells #[.int .i64 A, .int .i64 S, .int .i64 R] 27)) = W0 at hD hW ⊢
  clear hW0
  refine (copy_ex g A S R W0 hD.k).mono ?_; rintro e w1 ⟨d, rfl, hd, hd1, hb1⟩
  have hlt := hD.lt
  have hDlt := hD.o.lt
  have hz := hW.size
  have hW := hW.trans (.of_below hb1)
  have hr := hD.r.below hb1
  have hx := hD.x.below hb1
  have ho := hD.o.below hb1
  have hk := hD.k.below hb1
  clear hD hb1
  obtain ⟨r0, r1, r2⟩ := hr.cs
  have HR := Lib.hid hr
  have HX := Lib.hid hx
  have HO := Lib.hid ho
  have HK := Lib.hid hk
  have HD := Lib.hid hd1
  clear hr hx ho hk hd1
  go_wp2_with fail
  refine (step_any g A S R A 1 w1 HK.out hB).mono ?_; rintro e w2 ⟨rfl, hk2, hg2⟩
  have hr := HR.out.only hg2 (by omega)
  have hx := HX.out.only hg2 (by omega)
  have ho := HO.out.only hg2 (by omega)
  have hd2 := HD.out.only hg2 (by omega)
  have hW := hW.trans (.of_grown hg2 rfl)
  have HK := Lib.hid hk2
  clear HR HX HO HD hg2 hk2 r0 r1 r2
  obtain ⟨r0, r1, r2⟩ := hr.cs
  have HR := Lib.hid hr
  have HX := Lib.hid hx
  have HO := Lib.hid ho
  have HD := Lib.hid hd2
  clear hr hx ho hd2
  go_wp2_with fail
  refine (set_any g _ _ _ A 7 w2 HK.out (step_B hB)).mono ?_; rintro e w3 ⟨rfl, hk3, hg3⟩
  have hr := HR.out.only hg3 (by omega)
  have hx := HX.out.only hg3 (by omega)
  have ho := HO.out.only hg3 (by omega)
  have hd3 := HD.out.only hg3 (by omega)
  have hW := hW.trans (.of_grown hg3 rfl)
  clear HR HX HO HD hg3 hk3 HK r0 r1 r2
  obtain ⟨r0, r1, r2⟩ := hr.cs
  obtain ⟨-, x1, -⟩ := hx.cs
  have HR := Lib.hid hr
  have HX := Lib.hid hx
  have HO := Lib.hid ho
  have HD := Lib.hid hd3
  clear hr hx ho hd3
  go_wp2_with fail
  go_region_held3 (fun w' => w'.cell? ⟨w.heap.size + 1, 1, none⟩ = some (.int .i64 y) ∧ w'.cell? ⟨w.heap.size, 0, none⟩ = some (.int .i64 A) ∧ w'.cell? ⟨w.heap.size, 1, none⟩ = some (.int .i64 S) ∧ w'.cell? ⟨w.heap.size, 2, none⟩ = some (.int .i64 R))
    (first | (go_keep; done) | (refine ⟨?_, ?_, ?_, ?_⟩ <;> first | (go_keep; done) | (simp only [World.cell?_setCell_other _ _ _ _ (addr_ne _ _ _ _ (show w.heap.size + 1 + 1 ≠ w.heap.size by omega))]; assumption)))
    (first
      | (go_at_call 15; ((with_reducible refine (agrees_any _ _ _ _ _ _ (HD.out.drew) hB).mono ?_); rintro e w4 ⟨rfl, hb1⟩; have h1 := (HX.out.below (w := w3.drew) hb1).cs.2.1; have h2 := (HR.out.below (w := w3.drew) hb1).cs; obtain ⟨h2, h3, h4⟩ := h2; have h5 := (HO.out.below (w := w3.drew) hb1).cs; obtain ⟨h5, h6, h7⟩ := h5; have h8 := (HO.out.below (w := w3.drew) hb1).free; obtain ⟨h8, h9, h10⟩ := h8; have h11 := (HO.out.below (w := w3.drew) hb1).lt)))
  go_wp2_with fail
  refine bodyPost_ret (v := .tuple #[.pointer (some ⟨d, 0, none⟩), rclk A S R, .bool true]) (by simp [results, Try.results16, go_sem, h5, h6, h7]) rfl ⟨d, _, _, _, rfl, .inr (by omega), ?_, hB, ?_⟩
  · exact (((HD.out.drew.below hb1).far (by omega) _ _).far (by omega) _ _).far (by omega) _ _
  · exact ((((hW.drew).trans (.of_below hb1)).setCell (by simp; omega) _).setCell (by simp; omega) _).setCell (by simp; omega) _

theorem do_any (g : Nat) (A S R x y z : Int) (w : World) (hk : Clk w g A S R) (hB : CkB A S R) :
    Calls Try.prog 16 #[.pointer (some ⟨g, 0, none⟩), rclk A S R, .agg #[.int .i64 x, .int .i64 y, .int .i64 z]] w (Played g w) := by
  by_cases h0 : x = 0
  · subst h0; exact do_step g A S R y z w hk hB
  by_cases h1 : x = 1
  · subst h1; exact do_set g A S R y z w hk hB
  by_cases h2 : x = 2
  · subst h2; exact do_copy g A S R y z w hk hB
  exact do_other g A S R x y z w hk hB (by simpa using h0) (by simpa using h1) (by simpa using h2)

end Go.Proofs.Yticnklmpplicfaa
