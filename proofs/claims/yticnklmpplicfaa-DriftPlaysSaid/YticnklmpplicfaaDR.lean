/- Contracts of the reference of layer 47: New, Value, Show, over. -/
import Derived.Test.YticnklmpplicfaaDE
namespace Go.Proofs.Yticnklmpplicfaa
open Go.RowKit

/-- A clock of the reference, by value. -/
abbrev rclk (A S R : Int) : Value := .agg #[.int .i64 A, .int .i64 S, .int .i64 R]

def RetB (W : World) (v : Value) (e : Ending) (w' : World) : Prop := e = .returned v ∧ Below W.heap.size W w'
theorem RetB.int {W w' : World} {a b : Int} (h : a = b) (hb : Below W.heap.size W w') : RetB W (.int .i64 b) (.returned (.int .i64 a)) w' := ⟨by rw [h], hb⟩
theorem RetB.bool {W w' : World} {a b : Bool} (h : a = b) (hb : Below W.heap.size W w') : RetB W (.bool b) (.returned (.bool a)) w' := ⟨by rw [h], hb⟩
theorem RetB.int2 {W w' : World} {a b c d : Int} (h : a = b) (h' : c = d) (hb : Below W.heap.size W w') : RetB W (.tuple #[.int .i64 b, .int .i64 d]) (.returned (.tuple #[.int .i64 a, .int .i64 c])) w' := ⟨by rw [h, h'], hb⟩

set_option maxHeartbeats 800000 in
theorem value_any (A S R t : Int) (w : World) (hB : CkB A S R) (hAt : A ≤ t) (ht : t ≤ 1099511627776) :
    Calls Try.prog 50 #[rclk A S R, .int .i64 t] w (RetB w (.int .i64 (val A S R t))) := by
  obtain ⟨a0, a1, s0, s1, r0, r1⟩ := hB
  have hb := rate_bound r0 r1 (show 0 ≤ t - A by omega) (by omega)
  have hcm : R * (t - A) = (t - A) * R := Int.mul_comm _ _
  rw [hcm] at hb
  obtain ⟨hb1, hb2⟩ := hb
  obtain ⟨hq1, hq2⟩ := tdiv_bd hb1 hb2
  have hm := Int.mul_tdiv_add_tmod ((t - A) * R) 1000000
  have HC := Lib.hid hcm
  clear hcm
  by_cases hn : ((t - A) * R).tmod 1000000 < 0
  · have hf := floor_neg hn
    have hgt : (t - A) * R < ((t - A) * R).tdiv 1000000 * 1000000 := by omega
    have hle : (((t - A) * R).tdiv 1000000 - 1) * 1000000 ≤ (t - A) * R := by omega
    have HF := Lib.hid hf
    clear hf hm hn
    go_enter Try.func50, Try.ntmps50
    go_wp2
    refine wp_loop_rounds 2 ?_
    rw [rounds_succ]
    go_wp2
    rw [rounds_succ]
    go_wp2
    go_ret
    exact .int (by unfold val; rw [HC.out, ← HF.out]) (below1 _ _)
  · have hf := floor_pos hn
    have hle : ((t - A) * R).tdiv 1000000 * 1000000 ≤ (t - A) * R := by omega
    have HF := Lib.hid hf
    clear hf hm hn
    go_enter Try.func50, Try.ntmps50
    go_wp2
    refine wp_loop_rounds 2 ?_
    rw [rounds_succ]
    go_wp2
    go_ret
    exact .int (by unfold val; rw [HC.out, ← HF.out]) (below1 _ _)

theorem val_bd {A S R t : Int} (hB : CkB A S R) (hAt : A ≤ t) (ht : t ≤ 1099511627776) : -2000000000000 ≤ val A S R t ∧ val A S R t ≤ 4000000000000 := by
  obtain ⟨a0, a1, s0, s1, r0, r1⟩ := hB
  have := rate_bound r0 r1 (show 0 ≤ t - A by omega) (by omega)
  unfold val; omega

theorem over_any (A S R t skew : Int) (w : World) (hB : CkB A S R) (hAt : A ≤ t) (ht : t ≤ 1099511627776) (h0 : 0 ≤ skew) (_h1 : skew ≤ 9223372036854775807) :
    Calls Try.prog 47 #[rclk A S R, .int .i64 t, .int .i64 skew] w (RetB w (.bool (exB A S R skew t))) := by
  obtain ⟨v0, v1⟩ := val_bd hB hAt ht
  have t0 : 0 ≤ t := by have := hB.a0; omega
  by_cases h1 : skew < val A S R t - t
  · have hx : true = exB A S R skew t := by simp [exB, inB_f]; omega
    have HX := Lib.hid hx
    clear hx
    go_enter Try.func47, Try.ntmps47
    go_wp2_with (go_at_call 50; refine (value_any _ _ _ _ _ hB hAt ht).mono ?_; rintro e w1 ⟨rfl, hb1⟩)
    go_ret
    exact .bool HX.out ((below1 _ _).trans (hb1.mono (below1 _ _).size))
  · by_cases h2 : skew < -(val A S R t - t)
    · have hx : true = exB A S R skew t := by simp [exB, inB_f]; omega
      have HX := Lib.hid hx
      clear hx
      go_enter Try.func47, Try.ntmps47
      go_wp2_with (go_at_call 50; refine (value_any _ _ _ _ _ hB hAt ht).mono ?_; rintro e w1 ⟨rfl, hb1⟩)
      go_ret
      exact .bool HX.out ((below1 _ _).trans (hb1.mono (below1 _ _).size))
    · have hx : false = exB A S R skew t := by simp [exB, inB_iff]; omega
      have HX := Lib.hid hx
      clear hx
      go_enter Try.func47, Try.ntmps47
      go_wp2_with (go_at_call 50; refine (value_any _ _ _ _ _ hB hAt ht).mono ?_; rintro e w1 ⟨rfl, hb1⟩)
      go_ret
      exact .bool (by rw [← HX.out]; simp only [Bool.or_eq_false_iff, decide_eq_false_iff_not]; omega) ((below1 _ _).trans (hb1.mono (below1 _ _).size))


theorem refshow_any (A S R t : Int) (w : World) (hB : CkB A S R) :
    Calls Try.prog 22 #[rclk A S R, .int .i64 t] w (RetB w (.tuple #[.int .i64 (showV A S R t), .int .i64 (showE A S R t)])) := by
  rcases hb : inB 0 1099511627776 t with _ | _
  · have he : showE A S R t = 3 := by simp [showE, reachE_range hb]
    have hv : showV A S R t = 0 := by simp [showV, he]
    have HE := Lib.hid he
    have HV := Lib.hid hv
    clear he hv
    go_enter Try.func22, Try.ntmps22
    go_wp2_with (go_at_call 40; refine (time_any _ _).mono ?_; rintro e w' ⟨rfl, rfl⟩)
    go_ret2
    exact .int2 HV.out.symm HE.out.symm (below1 _ _)
  · by_cases h : t < A
    · have he : showE A S R t = 8 := by simp [showE, reachE_state hb h]
      have hv : showV A S R t = 0 := by simp [showV, he]
      have HE := Lib.hid he
      have HV := Lib.hid hv
      clear he hv
      go_enter Try.func22, Try.ntmps22
      go_wp2_with (go_at_call 40; refine (time_any _ _).mono ?_; rintro e w' ⟨rfl, rfl⟩)
      go_ret2
      exact .int2 HV.out.symm HE.out.symm (below1 _ _)
    · have hr := reachE_ok hb h
      obtain ⟨t0, t1⟩ := inB_iff.1 hb
      have h' : A ≤ t := by omega
      rcases hc : inB 0 1099511627776 (val A S R t) with _ | _
      · have he : showE A S R t = 3 := by simp [showE, hr, hc]
        have hv : showV A S R t = 0 := by simp [showV, he]
        have HE := Lib.hid he
        have HV := Lib.hid hv
        clear he hv hr
        go_enter Try.func22, Try.ntmps22
        go_wp2_with fail
        refine (time_any _ _).mono ?_; rintro e w' ⟨rfl, rfl⟩
        go_wp2_with fail
        refine (value_any _ _ _ _ _ hB h' t1).mono ?_; rintro e w1 ⟨rfl, hb1⟩
        go_wp2_with fail
        refine (time_any _ _).mono ?_; rintro e w' ⟨rfl, rfl⟩
        go_wp2_with fail
        go_ret2
        exact .int2 HV.out.symm HE.out.symm ((below1 _ _).trans (hb1.mono (below1 _ _).size))
      · have he : showE A S R t = 0 := by simp [showE, hr, hc]
        have hv : showV A S R t = val A S R t := by simp [showV, he]
        have HE := Lib.hid he
        have HV := Lib.hid hv
        clear he hv hr
        go_enter Try.func22, Try.ntmps22
        go_wp2_with fail
        refine (time_any _ _).mono ?_; rintro e w' ⟨rfl, rfl⟩
        go_wp2_with fail
        refine (value_any _ _ _ _ _ hB h' t1).mono ?_; rintro e w1 ⟨rfl, hb1⟩
        have hc1 := bcell hb1
        have hs1 := hb1.size
        simp only [World.size_alloc] at hs1
        go_wp2_with fail
        refine (time_any _ _).mono ?_; rintro e w' ⟨rfl, rfl⟩
        go_wp2_with fail
        refine (value_any _ _ _ _ _ hB h' t1).mono ?_; rintro e w2 ⟨rfl, hb2⟩
        go_wp2_with fail
        go_ret2
        exact .int2 HV.out.symm HE.out.symm (below_trans ((below1 _ _).trans (hb1.mono (below1 _ _).size)) hb2)

end Go.Proofs.Yticnklmpplicfaa
