/- The examples of chapter 47 (known) answer true in every memory. -/
import Derived.Test.YticnklmpplicfaaDS
namespace Go.Proofs.Yticnklmpplicfaa
open Go.RowKit

set_option maxHeartbeats 800000 in
theorem shows_true (g b1 b2 b3 n : Nat) (A S R : Int) (ts vs es : Nat → Int) (w : World) (hk : Clk w g A S R) (hB : CkB A S R) (hn : n ≤ 100)
    (h1 : ∀ k, k < n → w.cell? ⟨b1, k, none⟩ = some (.int .i64 (ts k))) (h2 : ∀ k, k < n → w.cell? ⟨b2, k, none⟩ = some (.int .i64 (vs k))) (h3 : ∀ k, k < n → w.cell? ⟨b3, k, none⟩ = some (.int .i64 (es k)))
    (hall : ∀ k, k < n → showV A S R (ts k) = vs k ∧ showE A S R (ts k) = es k) :
    Calls Try.prog 41 #[.pointer (some ⟨g, 0, none⟩), .slice (some ⟨b1, 0, none⟩) n n, .slice (some ⟨b2, 0, none⟩) n n, .slice (some ⟨b3, 0, none⟩) n n] w (RetB w (.bool true)) := by
  have HK := Lib.hid hk
  have H1 := Lib.hid h1
  have H2 := Lib.hid h2
  have H3 := Lib.hid h3
  have HA := Lib.hid hall
  clear hk h1 h2 h3 hall
  go_enter Try.func41, Try.ntmps41
  go_wp2_with fail
  go_loopw [9] (fun i wr => ∃ k : Nat, k ≤ n ∧ i = .int .i64 k ∧ Below w.heap.size w wr) (fun i _ => n - (intOf i).toNat)
  case atStart => exact ⟨0, Nat.zero_le _, rfl, Below.refl _ _⟩
  case round =>
    obtain ⟨k, hk, rfl, hb⟩ := hrel
    by_cases hlt : k < n
    · have hc1 : wr.cell? ⟨b1, k, none⟩ = some (.int .i64 (ts k)) := (hb.cell (p := ⟨b1, k, none⟩) (cell_lt (H1.out k hlt))).trans (H1.out k hlt)
      have l2 := cell_lt (H2.out k hlt)
      have l3 := cell_lt (H3.out k hlt)
      obtain ⟨hv, he⟩ := HA.out k hlt
      have HV : (showV A S R (ts k) != vs k) = false := by simp [hv]
      have HE : (showE A S R (ts k) != es k) = false := by simp [he]
      clear hv he
      go_wp2_with (go_at_call 17; refine (show_any _ _ _ _ _ _ (HK.out.below hb) hB).mono ?_; rintro e w1 ⟨rfl, hb1⟩; have hc := hb.trans (hb1.mono hb.size); have hc2 : w1.cell? ⟨b2, k, none⟩ = some (.int .i64 (vs k)) := (hc.cell (p := ⟨b2, k, none⟩) l2).trans (H2.out k hlt); have hc3 : w1.cell? ⟨b3, k, none⟩ = some (.int .i64 (es k)) := (hc.cell (p := ⟨b3, k, none⟩) l3).trans (H3.out k hlt))
      go_roundw
      case rel => exact ⟨k + 1, by omega, by go_num, hb.trans (hb1.mono hb.size)⟩
      case measure => simp [intOf]; omega
    · go_wp2_with fail
      go_ret
      exact .bool rfl hb


theorem cell_map (w : World) (b : Nat) (l : List Int) (T : TypeId) (h : w.heap[b]? = some (.cells (l.map (Value.int .i64)).toArray T (0, 0))) (k : Nat) (hk : k < l.length) :
    w.cell? ⟨b, k, none⟩ = some (.int .i64 (l.getD k 0)) := by
  rw [cell_of_row w b k _ T (0, 0) h]
  simp [hk]

theorem shows_new (g n : Nat) (A S R : Int) (l1 l2 l3 : List Int) (w : World) (hk : Clk w g A S R) (hB : CkB A S R) (hn : n ≤ 100) (e1 : l1.length = n) (e2 : l2.length = n) (e3 : l3.length = n)
    (hall : ∀ k, k < n → showV A S R (l1.getD k 0) = l2.getD k 0 ∧ showE A S R (l1.getD k 0) = l3.getD k 0) :
    Calls Try.prog 41 #[.pointer (some ⟨g, 0, none⟩), .slice (some ⟨w.heap.size, 0, none⟩) n n, .slice (some ⟨w.heap.size + 1, 0, none⟩) n n, .slice (some ⟨w.heap.size + 1 + 1, 0, none⟩) n n]
      (((w.alloc (.cells (l1.map (Value.int .i64)).toArray 3)).alloc (.cells (l2.map (Value.int .i64)).toArray 3)).alloc (.cells (l3.map (Value.int .i64)).toArray 23)) (RetB w (.bool true)) := by
  refine (shows_true g _ _ _ n A S R (fun k => l1.getD k 0) (fun k => l2.getD k 0) (fun k => l3.getD k 0) _ (((hk.alloc _).alloc _).alloc _) hB hn ?_ ?_ ?_ hall).mono ?_
  · intro k hlt
    refine cell_map _ _ l1 3 ?_ k (by omega)
    rw [Below.heap_alloc _ _ _ (by simp; omega), Below.heap_alloc _ _ _ (by simp)]
    exact heap_alloc_new _ _
  · intro k hlt
    refine cell_map _ _ l2 3 ?_ k (by omega)
    rw [Below.heap_alloc _ _ _ (by simp)]
    have := heap_alloc_new (w.alloc (.cells (l1.map (Value.int .i64)).toArray 3)) (.cells (l2.map (Value.int .i64)).toArray 3)
    simpa using this
  · intro k hlt
    refine cell_map _ _ l3 23 ?_ k (by omega)
    have := heap_alloc_new ((w.alloc (.cells (l1.map (Value.int .i64)).toArray 3)).alloc (.cells (l2.map (Value.int .i64)).toArray 3)) (.cells (l3.map (Value.int .i64)).toArray 23)
    simpa using this
  · rintro e w' ⟨rfl, hb⟩
    exact ⟨rfl, below_box (below_box (below_box hb))⟩

theorem kB1 : CkB 100 50 100000 := by constructor <;> omega
theorem kN : newOk 100 50 100000 = true := by decide
theorem kS1 : ∀ k, k < 4 → showV 100 50 100000 ([100, 109, 110, 99].getD k 0) = [50, 59, 61, 0].getD k 0 ∧ showE 100 50 100000 ([100, 109, 110, 99].getD k 0) = [0, 0, 0, 8].getD k 0 := by decide
theorem kV1 : devV 100 50 100000 110 = -49 := by decide
theorem kE1 : showE 100 50 100000 110 = 0 := by decide

theorem kX (t : Int) : val 100 50 100000 t = t - 50 + (t - 100) / 10 := by unfold val; omega
theorem kX1 : ExR 100 50 100000 100 50 1110 0 := by
  refine .inr (.inr (.inr (.inr ⟨by omega, by decide, by decide, by decide, by omega, by omega, fun u h1 h2 => ?_, rfl⟩)))
  rw [Bool.eq_iff_iff]
  simp only [exB, kX, Bool.not_eq_true', inB_f, decide_eq_true_eq]
  omega
theorem kX2 : ExR 100 50 100000 100 49 100 0 := .inr (.inr (.inl ⟨by omega, by decide, by decide, rfl, rfl⟩))
theorem kX3 : ExR 100 50 100000 100 60 1210 0 := by
  refine .inr (.inr (.inr (.inr ⟨by omega, by decide, by decide, by decide, by omega, by omega, fun u h1 h2 => ?_, rfl⟩)))
  rw [Bool.eq_iff_iff]
  simp only [exB, kX, Bool.not_eq_true', inB_f, decide_eq_true_eq]
  omega
theorem kT : stepE 100 50 100000 110 5 = 0 ∧ stepA 100 50 100000 110 5 = 110 ∧ stepS 100 50 100000 110 5 = 66 := by decide
theorem kB2 : CkB 110 66 100000 := by constructor <;> omega
theorem kS2 : ∀ k, k < 2 → showV 110 66 100000 ([110, 120].getD k 0) = [66, 77].getD k 0 ∧ showE 110 66 100000 ([110, 120].getD k 0) = [0, 0].getD k 0 := by decide
theorem kR : setE 110 66 100000 120 (-100000) = 0 ∧ setA 110 66 100000 120 (-100000) = 120 ∧ setS 110 66 100000 120 (-100000) = 77 ∧ setR 110 66 100000 120 (-100000) = -100000 := by decide
theorem kB3 : CkB 120 77 (-100000) := by constructor <;> omega
theorem kS3 : ∀ k, k < 2 → showV 120 77 (-100000) ([130, 131].getD k 0) = [86, 86].getD k 0 ∧ showE 120 77 (-100000) ([130, 131].getD k 0) = [0, 0].getD k 0 := by decide

theorem below_only {W w w' : World} {g : Nat} (h : Below W.heap.size W w) (hg : w.grownBy w' (some g)) (hW : W.heap.size ≤ g) : Below W.heap.size W w' :=
  h.grown hg h.size (fun k hk => by cases hk; exact hW)

theorem k_step (g : Nat) (w : World) (hk : Clk w g 100 50 100000) : Calls Try.prog 23 #[.pointer (some ⟨g, 0, none⟩), .int .i64 110, .int .i64 5] w fun e w' => e = .returned (.int .i64 0) ∧ Clk w' g 110 66 100000 ∧ w.grownBy w' (some g) := by
  have h := step_any g 100 50 100000 110 5 w hk kB1
  rw [kT.1, kT.2.1, kT.2.2] at h
  exact h
theorem k_set (g : Nat) (w : World) (hk : Clk w g 110 66 100000) : Calls Try.prog 19 #[.pointer (some ⟨g, 0, none⟩), .int .i64 120, .int .i64 (-100000)] w fun e w' => e = .returned (.int .i64 0) ∧ Clk w' g 120 77 (-100000) ∧ w.grownBy w' (some g) := by
  have h := set_any g 110 66 100000 120 (-100000) w hk kB2
  rw [kR.1, kR.2.1, kR.2.2.1, kR.2.2.2] at h
  exact h

set_option maxHeartbeats 3200000 in
theorem known47 (w : World) : Calls Try.prog 12 #[] w (RetB w (.bool true)) := by
  have hv1 := kV1
  have he1 := kE1
  go_enter Try.func12, Try.ntmps12
  go_wp2_with fail
  refine (new_ok _ _ _ _ kN).mono ?_; rintro e w1 ⟨g, rfl, hg, hk1, hb1⟩
  go_wp2_with fail
  refine (shows_new g 4 100 50 100000 [100, 109, 110, 99] [50, 59, 61, 0] [0, 0, 0, 8] w1 hk1 kB1 (by omega) rfl rfl rfl kS1).mono ?_; rintro e w2 ⟨rfl, hb2⟩
  go_wp2_with fail
  have hk2 := hk1.below hb2
  refine (dev_any _ _ _ _ _ _ hk2 kB1).mono ?_; rintro e w3 ⟨rfl, hb3⟩
  go_wp2_with fail
  have hk3 := hk2.below hb3
  refine (exceeds_any _ _ _ _ _ _ _ _ _ hk3 kB1 (by omega) kX1).mono ?_; rintro e w4 ⟨rfl, hb4⟩
  go_wp2_with fail
  have hk4 := hk3.below hb4
  refine (exceeds_any _ _ _ _ _ _ _ _ _ hk4 kB1 (by omega) kX2).mono ?_; rintro e w5 ⟨rfl, hb5⟩
  go_wp2_with fail
  have hk5 := hk4.below hb5
  refine (exceeds_any _ _ _ _ _ _ _ _ _ hk5 kB1 (by omega) kX3).mono ?_; rintro e w6 ⟨rfl, hb6⟩
  have hk6 := hk5.below hb6
  have hb7 := below_trans (below_trans (below_trans (below_trans (below_trans hb1 hb2) hb3) hb4) hb5) hb6
  clear hb1 hb2 hb3 hb4 hb5 hb6 hk1 hk2 hk3 hk4 hk5
  go_wp2_with fail
  refine (k_step _ _ hk6).mono ?_; rintro e w7 ⟨rfl, hk7, hg7⟩
  have hb8 := below_only hb7 hg7 hg
  clear hb7 hg7 hk6
  go_wp2_with fail
  refine (shows_new g 2 110 66 100000 [110, 120] [66, 77] [0, 0] w7 hk7 kB2 (by omega) rfl rfl rfl kS2).mono ?_; rintro e w8 ⟨rfl, hb9⟩
  have hk8 := hk7.below hb9
  have hb10 := below_trans hb8 hb9
  clear hb8 hb9 hk7
  go_wp2_with fail
  refine (k_set _ _ hk8).mono ?_; rintro e w9 ⟨rfl, hk9, hg9⟩
  have hb11 := below_only hb10 hg9 hg
  clear hb10 hg9 hk8
  go_wp2_with fail
  refine (shows_new g 2 120 77 (-100000) [130, 131] [86, 86] [0, 0] w9 hk9 kB3 (by omega) rfl rfl rfl kS3).mono ?_; rintro e w10 ⟨rfl, hb12⟩
  go_wp2_with fail
  go_ret
  exact .bool rfl (below_trans hb11 hb12)

end Go.Proofs.Yticnklmpplicfaa
