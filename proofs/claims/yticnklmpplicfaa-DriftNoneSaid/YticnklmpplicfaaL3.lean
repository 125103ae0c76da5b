/- The walk of DriftNone: it returns true whatever the numbers are; ahead of it the contracts of all methods at a nil or zero Clock. -/
import Derived.Test.YticnklmpplicfaaL1
import Derived.Test.YticnklmpplicfaaDF
namespace Go.Proofs.Yticnklmpplicfaa
open Go.RowKit

/-- A pointer to a clock that is nil, or to a clock that is zero. -/
def Nought (w : World) (p : Value) : Prop := p = .pointer none ∨ ∃ g, p = .pointer (some ⟨g, 0, none⟩) ∧ w.cell? ⟨g, 3, none⟩ = some (.bool false)
theorem Nought.nil (w : World) : Nought w (.pointer none) := .inl rfl
theorem Nought.below {w w' : World} {p : Value} (h : Nought w p) (hb : Below w.heap.size w w') : Nought w' p := by
  rcases h with h | ⟨g, h, hc⟩
  · exact .inl h
  · exact .inr ⟨g, h, (hb.cell (p := ⟨g, 3, none⟩) (cell_lt hc)).trans hc⟩
theorem zero_n {p : Value} {w : World} (h : Nought w p) : Calls Try.prog 42 #[p] w fun e w' => e = .returned (.bool true) ∧ w = w' := by
  rcases h with rfl | ⟨g, rfl, hc⟩
  · exact zero_nil w
  · exact zero_ptr g false w hc

theorem show_n (p : Value) (t : Int) (w : World) (h : Nought w p) : Calls Try.prog 17 #[p, .int .i64 t] w (RetB w (.tuple #[.int .i64 0, .int .i64 1])) := by
  have H := Lib.hid h
  clear h
  go_enter Try.func17, Try.ntmps17
  go_wp2_with (go_at_call 42; refine (zero_n H.out).mono ?_; rintro e w' ⟨rfl, rfl⟩)
  go_ret2
  exact .int2 rfl rfl (Below.refl _ _)
theorem dev_n (p : Value) (t : Int) (w : World) (h : Nought w p) : Calls Try.prog 20 #[p, .int .i64 t] w (RetB w (.tuple #[.int .i64 0, .int .i64 1])) := by
  have H := Lib.hid h
  clear h
  go_enter Try.func20, Try.ntmps20
  go_wp2_with (go_at_call 17; refine (show_n _ _ _ H.out).mono ?_; rintro e w1 ⟨rfl, hb⟩)
  go_ret2
  exact .int2 rfl rfl hb
theorem step_n (p : Value) (t b : Int) (w : World) (h : Nought w p) : Calls Try.prog 23 #[p, .int .i64 t, .int .i64 b] w (RetB w (.int .i64 1)) := by
  have H := Lib.hid h
  clear h
  go_enter Try.func23, Try.ntmps23
  go_wp2_with (go_at_call 17; refine (show_n _ _ _ H.out).mono ?_; rintro e w1 ⟨rfl, hb⟩)
  go_ret
  exact .int rfl hb
theorem set_n (p : Value) (t b : Int) (w : World) (h : Nought w p) : Calls Try.prog 19 #[p, .int .i64 t, .int .i64 b] w (RetB w (.int .i64 1)) := by
  have H := Lib.hid h
  clear h
  go_enter Try.func19, Try.ntmps19
  go_wp2_with (go_at_call 42; refine (zero_n H.out).mono ?_; rintro e w' ⟨rfl, rfl⟩)
  go_ret
  exact .int rfl (Below.refl _ _)
theorem copy_n (p : Value) (w : World) (h : Nought w p) : Calls Try.prog 18 #[p] w (RetB w (.pointer none)) := by
  have H := Lib.hid h
  clear h
  go_enter Try.func18, Try.ntmps18
  go_wp2_with (go_at_call 42; refine (zero_n H.out).mono ?_; rintro e w' ⟨rfl, rfl⟩)
  go_ret
  exact ⟨rfl, Below.refl _ _⟩
theorem within_n1 (p d : Value) (t b : Int) (w : World) (h : Nought w p) : Calls Try.prog 21 #[p, d, .int .i64 t, .int .i64 b] w (BoolErr w false 1) := by
  have H := Lib.hid h
  clear h
  go_enter Try.func21, Try.ntmps21
  go_wp2_with (go_at_call 42; refine (zero_n H.out).mono ?_; rintro e w' ⟨rfl, rfl⟩)
  go_ret2
  exact .mk' rfl rfl (Below.refl _ _)
theorem within_n2 (g : Nat) (A S R : Int) (p : Value) (t b : Int) (w : World) (hk : Clk w g A S R) (h : Nought w p) : Calls Try.prog 21 #[.pointer (some ⟨g, 0, none⟩), p, .int .i64 t, .int .i64 b] w (BoolErr w false 2) := by
  have c3 := hk.c3
  have C3 := Lib.hid c3
  have H := Lib.hid h
  clear h hk c3
  go_enter Try.func21, Try.ntmps21
  go_wp2_with fail
  refine (zero_ptr _ _ _ C3.out).mono ?_; rintro e w' ⟨rfl, rfl⟩
  go_wp2_with fail
  refine (zero_n H.out).mono ?_; rintro e w' ⟨rfl, rfl⟩
  go_wp2_with fail
  go_ret2
  exact .mk' rfl rfl (Below.refl _ _)
theorem exceeds_n (p : Value) (t b : Int) (w : World) (h : Nought w p) : Calls Try.prog 13 #[p, .int .i64 t, .int .i64 b] w (RetB w (.tuple #[.int .i64 0, .int .i64 1])) := by
  have h' := (h.below (below1 w (.cells #[p] 22))).below (below1 _ (.cells #[.int .i64 b] 3))
  have H := Lib.hid h'
  have hp : p = .pointer none ∨ ∃ a, p = .pointer (some a) := by
    rcases h with h | ⟨g, h, _⟩
    · exact .inl h
    · exact .inr ⟨_, h⟩
  clear h h'
  rcases hp with rfl | ⟨a, rfl⟩
  all_goals
    go_enter Try.func13, Try.ntmps13
    go_wp2_with (go_at_call 42; refine (zero_n H.out).mono ?_; rintro e w' ⟨rfl, rfl⟩)
    go_ret2
    exact .int2 rfl rfl (below_alloc (below1 _ _) _)


theorem nN : newOk 0 0 0 = true := by decide

set_option maxRecDepth 100000 in
set_option maxHeartbeats 6400000 in
theorem law_none (t b : Int) (w : World) : Calls Try.prog 7 #[.int .i64 t, .int .i64 b] w (RetB w (.bool true)) := by
  go_enter Try.func7, Try.ntmps7
  go_wp2_with fail
  refine (new_ok _ _ _ _ nN).mono ?_; rintro e w1 ⟨g, rfl, hg, hk1, hb1⟩
  go_wp2_with fail
  refine wp_loop_rounds 3 ?_
  rw [rounds_succ]
  have hK := Lib.hid ((hk1.alloc (.cells #[.int .i64 0, .int .i64 0, .int .i64 0, .bool false] 54)).alloc (.cells #[.pointer none, .pointer (some ⟨w1.heap.size, 0, none⟩)] 22))
  have hP : Below w.heap.size w ((w1.alloc (.cells #[.int .i64 0, .int .i64 0, .int .i64 0, .bool false] 54)).alloc (.cells #[.pointer none, .pointer (some ⟨w1.heap.size, 0, none⟩)] 22)) := below_alloc (below_alloc hb1 _) _
  have hN1 := Lib.hid (Nought.nil ((w1.alloc (.cells #[.int .i64 0, .int .i64 0, .int .i64 0, .bool false] 54)).alloc (.cells #[.pointer none, .pointer (some ⟨w1.heap.size, 0, none⟩)] 22)))
  have hN2 : Nought ((w1.alloc (.cells #[.int .i64 0, .int .i64 0, .int .i64 0, .bool false] 54)).alloc (.cells #[.pointer none, .pointer (some ⟨w1.heap.size, 0, none⟩)] 22)) (.pointer (some ⟨w1.heap.size, 0, none⟩)) :=
    .inr ⟨_, rfl, by simp⟩
  generalize hW : (w1.alloc (.cells #[.int .i64 0, .int .i64 0, .int .i64 0, .bool false] 54)).alloc (.cells #[.pointer none, .pointer (some ⟨w1.heap.size, 0, none⟩)] 22) = W0 at hK hP hN1 hN2 ⊢
  have e0 : W0.cell? ⟨w1.heap.size + 1, 0, none⟩ = some (.pointer none) := by rw [← hW]; simp
  have e1 : W0.cell? ⟨w1.heap.size + 1, 1, none⟩ = some (.pointer (some ⟨w1.heap.size, 0, none⟩)) := by rw [← hW]; simp
  have HB := Lib.hid (Below.refl W0.heap.size W0)
  have E1 := Lib.hid e1
  clear hW e1 hk1 hb1
  go_wp2_with fail
  refine (show_n _ _ _ hN1.out).mono ?_; rintro e wa0 ⟨rfl, ha0⟩
  have na0 := Lib.hid (hN1.out.below ha0)
  have ca0 := Lib.hid (below_trans HB.out ha0)
  have ka0 := Lib.hid (hK.out.below ha0)
  have ba0 := below_trans hP ha0
  clear ha0
  go_wp2_with fail
  refine (dev_n _ _ _ na0.out).mono ?_; rintro e wa1 ⟨rfl, ha1⟩
  have na1 := Lib.hid (na0.out.below ha1)
  have ca1 := Lib.hid (below_trans ca0.out ha1)
  have ka1 := Lib.hid (ka0.out.below ha1)
  have ba1 := below_trans ba0 ha1
  clear ha1
  go_wp2_with fail
  refine (exceeds_n _ _ _ _ na1.out).mono ?_; rintro e wa2 ⟨rfl, ha2⟩
  have na2 := Lib.hid (na1.out.below ha2)
  have ca2 := Lib.hid (below_trans ca1.out ha2)
  have ka2 := Lib.hid (ka1.out.below ha2)
  have ba2 := below_trans ba1 ha2
  clear ha2
  go_wp2_with fail
  refine (within_n1 _ _ _ _ _ na2.out).mono ?_; rintro e wa3 ⟨rfl, ha3⟩
  have na3 := Lib.hid (na2.out.below ha3)
  have ca3 := Lib.hid (below_trans ca2.out ha3)
  have ka3 := Lib.hid (ka2.out.below ha3)
  have ba3 := below_trans ba2 ha3
  clear ha3
  go_wp2_with fail
  refine (within_n2 _ _ _ _ _ _ _ _ ka3.out na3.out).mono ?_; rintro e wa4 ⟨rfl, ha4⟩
  have na4 := Lib.hid (na3.out.below ha4)
  have ca4 := Lib.hid (below_trans ca3.out ha4)
  have ka4 := Lib.hid (ka3.out.below ha4)
  have ba4 := below_trans ba3 ha4
  clear ha4
  go_wp2_with fail
  refine (step_n _ _ _ _ na4.out).mono ?_; rintro e wa5 ⟨rfl, ha5⟩
  have na5 := Lib.hid (na4.out.below ha5)
  have ca5 := Lib.hid (below_trans ca4.out ha5)
  have ka5 := Lib.hid (ka4.out.below ha5)
  have ba5 := below_trans ba4 ha5
  clear ha5
  go_wp2_with fail
  refine (set_n _ _ _ _ na5.out).mono ?_; rintro e wa6 ⟨rfl, ha6⟩
  have na6 := Lib.hid (na5.out.below ha6)
  have ca6 := Lib.hid (below_trans ca5.out ha6)
  have ka6 := Lib.hid (ka5.out.below ha6)
  have ba6 := below_trans ba5 ha6
  clear ha6
  go_wp2_with fail
  refine (copy_n _ _ na6.out).mono ?_; rintro e wa7 ⟨rfl, ha7⟩
  have na7 := Lib.hid (na6.out.below ha7)
  have ca7 := Lib.hid (below_trans ca6.out ha7)
  have ka7 := Lib.hid (ka6.out.below ha7)
  have ba7 := below_trans ba6 ha7
  clear ha7
  have e1 := ((ca7.out).cell (p := ⟨w1.heap.size + 1, 1, none⟩) (cell_lt E1.out)).trans E1.out
  have hN2 := Lib.hid (hN2.below ca7.out)
  go_wp2_with fail
  rw [rounds_succ]
  go_wp2_with fail
  refine (show_n _ _ _ hN2.out).mono ?_; rintro e wb0 ⟨rfl, hb0⟩
  have nb0 := Lib.hid (hN2.out.below hb0)
  have kb0 := Lib.hid (ka7.out.below hb0)
  have bb0 := below_trans ba7 hb0
  clear hb0
  go_wp2_with fail
  refine (dev_n _ _ _ nb0.out).mono ?_; rintro e wb1 ⟨rfl, hb1⟩
  have nb1 := Lib.hid (nb0.out.below hb1)
  have kb1 := Lib.hid (kb0.out.below hb1)
  have bb1 := below_trans bb0 hb1
  clear hb1
  go_wp2_with fail
  refine (exceeds_n _ _ _ _ nb1.out).mono ?_; rintro e wb2 ⟨rfl, hb2⟩
  have nb2 := Lib.hid (nb1.out.below hb2)
  have kb2 := Lib.hid (kb1.out.below hb2)
  have bb2 := below_trans bb1 hb2
  clear hb2
  go_wp2_with fail
  refine (within_n1 _ _ _ _ _ nb2.out).mono ?_; rintro e wb3 ⟨rfl, hb3⟩
  have nb3 := Lib.hid (nb2.out.below hb3)
  have kb3 := Lib.hid (kb2.out.below hb3)
  have bb3 := below_trans bb2 hb3
  clear hb3
  go_wp2_with fail
  refine (within_n2 _ _ _ _ _ _ _ _ kb3.out nb3.out).mono ?_; rintro e wb4 ⟨rfl, hb4⟩
  have nb4 := Lib.hid (nb3.out.below hb4)
  have kb4 := Lib.hid (kb3.out.below hb4)
  have bb4 := below_trans bb3 hb4
  clear hb4
  go_wp2_with fail
  refine (step_n _ _ _ _ nb4.out).mono ?_; rintro e wb5 ⟨rfl, hb5⟩
  have nb5 := Lib.hid (nb4.out.below hb5)
  have kb5 := Lib.hid (kb4.out.below hb5)
  have bb5 := below_trans bb4 hb5
  clear hb5
  go_wp2_with fail
  refine (set_n _ _ _ _ nb5.out).mono ?_; rintro e wb6 ⟨rfl, hb6⟩
  have nb6 := Lib.hid (nb5.out.below hb6)
  have kb6 := Lib.hid (kb5.out.below hb6)
  have bb6 := below_trans bb5 hb6
  clear hb6
  go_wp2_with fail
  refine (copy_n _ _ nb6.out).mono ?_; rintro e wb7 ⟨rfl, hb7⟩
  have nb7 := Lib.hid (nb6.out.below hb7)
  have kb7 := Lib.hid (kb6.out.below hb7)
  have bb7 := below_trans bb6 hb7
  clear hb7
  go_wp2_with fail
  rw [rounds_succ]
  go_wp2_with fail
  refine (known47 _).mono ?_; rintro e wz ⟨rfl, hz⟩
  go_wp2_with fail
  go_ret
  exact .bool rfl (below_trans bb7 hz)

end Go.Proofs.Yticnklmpplicfaa
