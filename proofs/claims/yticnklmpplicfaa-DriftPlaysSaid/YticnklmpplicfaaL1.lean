/- The walk of DriftExceeds: it returns true whatever the numbers are. -/
import Derived.Test.YticnklmpplicfaaDK
namespace Go.Proofs.Yticnklmpplicfaa
open Go.RowKit

theorem wf64 {n : Int} (h : (Lit.int .i64 n).wf = true) : -9223372036854775808 ≤ n ∧ n ≤ 9223372036854775807 := by
  simpa [Lit.wf, IntKind.min, IntKind.max, IntKind.signed, IntKind.bits] using h

set_option maxHeartbeats 1600000 in
theorem law_exceeds (A S R t skew : Int) (w : World) (hs : skew ≤ 9223372036854775807) :
    Calls Try.prog 3 #[.int .i64 A, .int .i64 S, .int .i64 R, .int .i64 t, .int .i64 skew] w (RetB w (.bool true)) := by
  rcases hn : newOk A S R with _ | _
  · go_enter Try.func3, Try.ntmps3
    go_wp2_with fail
    refine (new_bad _ _ _ _ hn).mono ?_; rintro e w1 ⟨rfl, hb1⟩
    go_wp2_with fail
    refine (refnew_bad _ _ _ _ hn).mono ?_; rintro e w2 ⟨rfl, hb2⟩
    go_wp2_with fail
    refine (known47 _).mono ?_; rintro e w3 ⟨rfl, hb3⟩
    go_wp2_with fail
    go_ret
    exact .bool rfl (below_trans (below_trans hb1 hb2) (below_box hb3))
  · have hB := newOk_B hn
    obtain ⟨v, c, hx⟩ := exR_total A S R t skew
    have HX := Lib.hid hx
    clear hx
    go_enter Try.func3, Try.ntmps3
    go_wp2_with fail
    refine (new_ok _ _ _ _ hn).mono ?_; rintro e w1 ⟨g, rfl, hg, hk1, hb1⟩
    go_wp2_with fail
    refine (refnew_ok _ _ _ _ hn).mono ?_; rintro e w2 ⟨rfl, hb2⟩
    have hk2 := hk1.below hb2
    go_wp2_with fail
    refine (exceeds_any _ _ _ _ _ _ _ _ _ (hk2.alloc _) hB hs HX.out).mono ?_; rintro e w3 ⟨rfl, hb3⟩
    obtain ⟨c0, c1, c2⟩ := box_cells hb3
    go_wp2_with fail
    refine (refex_any _ _ _ _ _ _ _ _ hB hs HX.out).mono ?_; rintro e w4 ⟨rfl, hb4⟩
    clear c0 c1 c2
    go_wp2_with fail
    refine (known47 _).mono ?_; rintro e w5 ⟨rfl, hb5⟩
    go_wp2_with fail
    go_ret
    exact .bool rfl (below_trans (below_trans (below_trans (below_trans hb1 hb2) (below_box hb3)) hb4) hb5)

end Go.Proofs.Yticnklmpplicfaa
