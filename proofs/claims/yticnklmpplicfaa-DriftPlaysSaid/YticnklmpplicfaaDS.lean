/- Contracts of the reference of layer 47: New, Exceeds. -/
import Derived.Test.YticnklmpplicfaaDR
namespace Go.Proofs.Yticnklmpplicfaa
open Go.RowKit

set_option maxHeartbeats 800000 in
theorem refnew_ok (A S R : Int) (w : World) (h : newOk A S R = true) :
    Calls Try.prog 11 #[.int .i64 A, .int .i64 S, .int .i64 R] w (RetB w (.tuple #[rclk A S R, .int .i64 0])) := by
  have hB := newOk_B h
  obtain ⟨a0, a1, s0, s1, r0, r1⟩ := hB
  have hA : inB 0 1099511627776 A = true := inB_iff.2 ⟨a0, a1⟩
  have hS : inB 0 1099511627776 S = true := inB_iff.2 ⟨s0, s1⟩
  clear h
  go_enter Try.func11, Try.ntmps11
  go_wp2_with (go_at_call 40; refine (time_any _ _).mono ?_; rintro e w' ⟨rfl, rfl⟩)
  refine bodyPost_ret (v := .tuple #[rclk A S R, .int .i64 0]) (by simp [results, Try.results11, go_sem]) rfl ⟨rfl, below1 _ _⟩

set_option maxHeartbeats 800000 in
theorem refnew_bad (A S R : Int) (w : World) (h : newOk A S R = false) :
    Calls Try.prog 11 #[.int .i64 A, .int .i64 S, .int .i64 R] w (RetB w (.tuple #[rclk 0 0 0, .int .i64 2])) := by
  rcases hA : inB 0 1099511627776 A with _ | _
  · clear h
    go_enter Try.func11, Try.ntmps11
    go_wp2_with (go_at_call 40; refine (time_any _ _).mono ?_; rintro e w' ⟨rfl, rfl⟩)
    refine bodyPost_ret (v := .tuple #[rclk 0 0 0, .int .i64 2]) (by simp [results, Try.results11, go_sem]) rfl ⟨rfl, below1 _ _⟩
  · rcases hS : inB 0 1099511627776 S with _ | _
    · clear h
      go_enter Try.func11, Try.ntmps11
      go_wp2_with (go_at_call 40; refine (time_any _ _).mono ?_; rintro e w' ⟨rfl, rfl⟩)
      refine bodyPost_ret (v := .tuple #[rclk 0 0 0, .int .i64 2]) (by simp [results, Try.results11, go_sem]) rfl ⟨rfl, below1 _ _⟩
    · have h2 : inB (-100000) 100000 R = false := by simpa [newOk, in2, hA, hS] using h
      clear h
      by_cases hR : R < -100000
      · clear h2
        go_enter Try.func11, Try.ntmps11
        go_wp2_with (go_at_call 40; refine (time_any _ _).mono ?_; rintro e w' ⟨rfl, rfl⟩)
        refine bodyPost_ret (v := .tuple #[rclk 0 0 0, .int .i64 2]) (by simp [results, Try.results11, go_sem]) rfl ⟨rfl, below1 _ _⟩
      · have hR' : 100000 < R := by have := inB_f.1 h2; omega
        clear h2 hR
        go_enter Try.func11, Try.ntmps11
        go_wp2_with (go_at_call 40; refine (time_any _ _).mono ?_; rintro e w' ⟨rfl, rfl⟩)
        refine bodyPost_ret (v := .tuple #[rclk 0 0 0, .int .i64 2]) (by simp [results, Try.results11, go_sem]) rfl ⟨rfl, below1 _ _⟩


/-- A power of two, not above 2^40. -/
def Pow (j : Int) : Prop := ∃ k : Nat, k ≤ 40 ∧ j = 2 ^ k
theorem Pow.top : Pow 1099511627776 := ⟨40, Nat.le_refl _, by decide⟩
theorem Pow.half {j : Int} (h : Pow j) : 1 ≤ j ∧ j ≤ 1099511627776 ∧ (j = 1 ∨ (Pow (j / 2) ∧ 2 * (j / 2) = j)) := by
  obtain ⟨k, hk, rfl⟩ := h
  have h1 : (1 : Int) ≤ 2 ^ k := by have : 0 < 2 ^ k := Nat.pow_pos (by omega); exact_mod_cast this
  have h2 : (2 : Int) ^ k ≤ 1099511627776 := by
    have h3 : 2 ^ k ≤ 2 ^ 40 := Nat.pow_le_pow_right (by omega) hk
    have h4 : ((2 ^ k : Nat) : Int) = (2 : Int) ^ k := by rw [Int.natCast_pow]; rfl
    have h5 : (2 ^ 40 : Nat) = 1099511627776 := by decide
    rw [← h4]; omega
  refine ⟨h1, h2, ?_⟩
  rcases k with _ | k
  · exact .inl rfl
  · have : (2 : Int) ^ (k + 1) / 2 = 2 ^ k := by rw [Int.pow_succ]; omega
    exact .inr ⟨⟨k, by omega, this⟩, by rw [this, Int.pow_succ]; omega⟩

/-- What the outer loop knows of jump j at time t, r the time looked for. -/
def JumpOk (t j r : Int) : Prop := (j = 0 ∧ r = t + 1) ∨ (Pow j ∧ r ≤ t + 2 * j)
theorem JumpOk.next {t j r : Int} (hp : Pow j) (htr : t < r) (h : r ≤ t + j) : JumpOk t (j / 2) r := by
  obtain ⟨_, _, h3⟩ := hp.half
  rcases h3 with rfl | ⟨h3, h4⟩
  · exact .inl ⟨rfl, by omega⟩
  · exact .inr ⟨h3, by omega⟩

theorem box_cells {w wr : World} {A S R : Int} (hb : Below (w.alloc (.cells #[.int .i64 A, .int .i64 S, .int .i64 R] 27)).heap.size (w.alloc (.cells #[.int .i64 A, .int .i64 S, .int .i64 R] 27)) wr) :
    wr.cell? ⟨w.heap.size, 0, none⟩ = some (.int .i64 A) ∧ wr.cell? ⟨w.heap.size, 1, none⟩ = some (.int .i64 S) ∧ wr.cell? ⟨w.heap.size, 2, none⟩ = some (.int .i64 R) := by
  obtain ⟨h, _⟩ := bcell hb
  refine ⟨?_, ?_, ?_⟩ <;> (rw [h _ _ (by simp)]; simp)

set_option maxHeartbeats 1600000 in
theorem refex_some (A S R t skew r : Int) (w : World) (hB : CkB A S R) (h0 : 0 ≤ skew) (hs : skew ≤ 9223372036854775807) (hr0 : 0 ≤ t) (hr2 : A ≤ t) (h5 : t < r) (h6 : r ≤ 1099511627776)
    (hf : ∀ u, t ≤ u → u ≤ 1099511627776 → exB A S R skew u = decide (r ≤ u)) :
    Calls Try.prog 14 #[rclk A S R, .int .i64 t, .int .i64 skew] w (RetB w (.tuple #[.int .i64 r, .int .i64 0])) := by
  have hx1 : exB A S R skew t = false := by rw [hf t (by omega) (by omega)]; simpa using h5
  have hx2 : exB A S R skew 1099511627776 = true := by rw [hf _ (by omega) (by omega)]; simpa using h6
  have hr1 : t ≤ 1099511627776 := by omega
  have hti : inB 0 1099511627776 t = true := inB_iff.2 ⟨hr0, hr1⟩
  have HF := Lib.hid hf
  have hA1 := hB.a1
  have hd1 : decide (skew < 0) = false := by simpa using h0
  have hd2 : decide (t < A) = false := by simpa using hr2
  clear hf
  go_enter Try.func14, Try.ntmps14
  go_wp2_with fail
  refine (time_any _ _).mono ?_; rintro e w' ⟨rfl, rfl⟩
  go_wp2_with fail
  refine (over_any _ _ _ _ _ _ hB hr2 hr1 h0 hs).mono ?_; rintro e w1 ⟨rfl, hb1⟩
  obtain ⟨c0, c1, c2⟩ := box_cells hb1
  go_wp2_with fail
  refine (over_any _ _ _ _ _ _ hB hA1 (Int.le_refl _) h0 hs).mono ?_; rintro e w2 ⟨rfl, hb2⟩
  have hb3 := hb1.trans (hb2.mono hb1.size)
  clear c0 c1 c2 hb1 hb2 hx1
  obtain ⟨c0, c1, c2⟩ := box_cells hb3
  go_wp2_with fail
  clear c0 c1 c2 hx2
  generalize hW : w.alloc (.cells #[.int .i64 A, .int .i64 S, .int .i64 R] 27) = W0 at hb3
  have HW := Lib.hid hW
  clear hW hd1 hd2
  go_loopw [8, 9] (fun a b wr => ∃ T J : Int, a = .int .i64 T ∧ b = .int .i64 J ∧ t ≤ T ∧ T < r ∧ JumpOk T J r ∧ Below W0.heap.size W0 wr) (fun _ b _ => (intOf b).toNat)
  case atStart => exact ⟨t, _, rfl, rfl, Int.le_refl _, h5, .inr ⟨.top, by omega⟩, hb3⟩
  case round =>
    obtain ⟨T, J, rfl, rfl, i1, i2, i3, hbr⟩ := hrel
    rcases i3 with ⟨i3, i4⟩ | ⟨hp, i4⟩
    · subst i3
      have I4 := Lib.hid i4
      clear i4
      go_wp2_with fail
      go_ret2
      exact .int2 I4.out.symm rfl (by rw [← HW.out] at hbr; exact (below1 _ _).trans (hbr.mono (below1 _ _).size))
    · obtain ⟨j1, j2, -⟩ := hp.half
      have HP := Lib.hid hp
      clear hp
      have hdJ : decide (0 < J) = true := by simp; omega
      go_wp2_with fail
      obtain ⟨wo, rfl⟩ : ∃ wo : World, wo = wr := ⟨_, rfl⟩
      go_loopw [8] (fun a wr => ∃ T : Int, a = .int .i64 T ∧ t ≤ T ∧ T < r ∧ r ≤ T + 2 * J ∧ Below W0.heap.size W0 wr) (fun a _ => (r - intOf a).toNat)
      case atStart => exact ⟨T, rfl, i1, i2, i4, hbr⟩
      case round =>
        clear i1 i2 i4 hbr
        obtain ⟨T, rfl, i1, i2, i4, hbr⟩ := hrel
        by_cases hle : T + J ≤ 1099511627776
        · have hd : decide (T + J ≤ 1099511627776) = true := by simpa using hle
          have hc := hbr
          rw [← HW.out] at hc
          obtain ⟨c0, c1, c2⟩ := box_cells hc
          clear hc
          by_cases hx : r ≤ T + J
          · have hx1 : exB A S R skew (T + J) = true := by rw [HF.out _ (by omega) (by omega)]; simpa using hx
            go_wp2_with fail
            refine (over_any _ _ _ _ _ _ hB (by omega) hle h0 hs).mono ?_; rintro e w3 ⟨rfl, hb4⟩
            clear c0 c1 c2
            go_wp2_with fail
            go_roundw
            case rel => exact ⟨T, _, rfl, rfl, by omega, by omega, .next HP.out i2 hx, hbr.trans (hb4.mono hbr.size)⟩
            case measure => simp [intOf]; omega
          · have hx1 : exB A S R skew (T + J) = false := by rw [HF.out _ (by omega) (by omega)]; simpa using hx
            go_wp2_with fail
            refine (over_any _ _ _ _ _ _ hB (by omega) hle h0 hs).mono ?_; rintro e w3 ⟨rfl, hb4⟩
            clear c0 c1 c2
            go_wp2_with fail
            go_roundw
            case rel => exact ⟨T + J, rfl, by omega, by omega, by omega, hbr.trans (hb4.mono hbr.size)⟩
            case measure => simp [intOf]; omega
        · have hd : decide (T + J ≤ 1099511627776) = false := by simpa using hle
          go_wp2_with fail
          go_roundw
          case rel => exact ⟨T, _, rfl, rfl, by omega, by omega, .next HP.out i2 (by omega), hbr⟩
          case measure => simp [intOf]; omega


theorem below_box {w w1 : World} {o : Obj} (hb : Below (w.alloc o).heap.size (w.alloc o) w1) : Below w.heap.size w w1 := (below1 w o).trans (hb.mono (below1 w o).size)

set_option maxHeartbeats 1600000 in
theorem refex_any (A S R t skew v c : Int) (w : World) (hB : CkB A S R) (hs : skew ≤ 9223372036854775807) (hx : ExR A S R t skew v c) :
    Calls Try.prog 14 #[rclk A S R, .int .i64 t, .int .i64 skew] w (RetB w (.tuple #[.int .i64 v, .int .i64 c])) := by
  have hA1 := hB.a1
  rcases hx with ⟨h1, rfl, rfl⟩ | ⟨h1, h2, rfl, rfl⟩ | ⟨h1, h2, h3, rfl, rfl⟩ | ⟨h1, h2, h3, h4, rfl, rfl⟩ | ⟨h1, h2, h3, h4, h5, h6, h7, rfl⟩
  · go_enter Try.func14, Try.ntmps14
    go_wp2_with fail
    go_ret2
    exact .int2 rfl rfl (below1 _ _)
  · rcases hb : inB 0 1099511627776 t with _ | _
    · have he := reachE_range (A := A) hb
      have HE := Lib.hid he
      clear he h2
      go_enter Try.func14, Try.ntmps14
      go_wp2_with fail
      refine (time_any _ _).mono ?_; rintro e w' ⟨rfl, rfl⟩
      go_wp2_with fail
      go_ret2
      exact .int2 rfl HE.out.symm (below1 _ _)
    · by_cases h : t < A
      · have he := reachE_state hb h
        have HE := Lib.hid he
        clear he h2
        go_enter Try.func14, Try.ntmps14
        go_wp2_with fail
        refine (time_any _ _).mono ?_; rintro e w' ⟨rfl, rfl⟩
        go_wp2_with fail
        go_ret2
        exact .int2 rfl HE.out.symm (below1 _ _)
      · exact absurd (reachE_ok hb h) h2
  · obtain ⟨r0, r1, r2⟩ := reachE_inv h2
    have hti : inB 0 1099511627776 v = true := inB_iff.2 ⟨r0, r1⟩
    clear h2
    go_enter Try.func14, Try.ntmps14
    go_wp2_with fail
    refine (time_any _ _).mono ?_; rintro e w' ⟨rfl, rfl⟩
    go_wp2_with fail
    refine (over_any _ _ _ _ _ _ hB r2 r1 h1 hs).mono ?_; rintro e w1 ⟨rfl, hb1⟩
    go_wp2_with fail
    go_ret2
    exact .int2 rfl rfl (below_box hb1)
  · obtain ⟨r0, r1, r2⟩ := reachE_inv h2
    have hti : inB 0 1099511627776 t = true := inB_iff.2 ⟨r0, r1⟩
    clear h2
    go_enter Try.func14, Try.ntmps14
    go_wp2_with fail
    refine (time_any _ _).mono ?_; rintro e w' ⟨rfl, rfl⟩
    go_wp2_with fail
    refine (over_any _ _ _ _ _ _ hB r2 r1 h1 hs).mono ?_; rintro e w1 ⟨rfl, hb1⟩
    obtain ⟨c0, c1, c2⟩ := box_cells hb1
    go_wp2_with fail
    refine (over_any _ _ _ _ _ _ hB hA1 (Int.le_refl _) h1 hs).mono ?_; rintro e w2 ⟨rfl, hb2⟩
    go_wp2_with fail
    go_ret2
    exact .int2 rfl rfl (below_box (hb1.trans (hb2.mono hb1.size)))
  · obtain ⟨r0, r1, r2⟩ := reachE_inv h2
    exact refex_some A S R t skew v w hB h1 hs r0 r2 h5 h6 h7

end Go.Proofs.Yticnklmpplicfaa
