/- The contract of agrees of law 47: a clock in the state of the reference's shows what the reference shows. -/
import Derived.Test.YticnklmpplicfaaDT
namespace Go.Proofs.Yticnklmpplicfaa
open Go.RowKit

theorem four {P : Int → Prop} {a b c d : Int} (k : Nat) (hk : k < 4) (h0 : P a) (h1 : P b) (h2 : P c) (h3 : P d) : P ([a, b, c, d].getD k 0) := by
  match k, hk with
  | 0, _ => exact h0
  | 1, _ => exact h1
  | 2, _ => exact h2
  | 3, _ => exact h3

set_option maxHeartbeats 3200000 in
theorem agrees_any (g : Nat) (A S R t : Int) (w : World) (hk : Clk w g A S R) (hB : CkB A S R) :
    Calls Try.prog 15 #[.pointer (some ⟨g, 0, none⟩), rclk A S R, .int .i64 t] w (RetB w (.bool true)) := by
  have a0 := hB.a0
  have a1 := hB.a1
  have HK := Lib.hid (((hk.alloc (.cells #[.int .i64 A, .int .i64 S, .int .i64 R] 27)).alloc (.cells #[.int .i64 t, .int .i64 A, .int .i64 (A + 999999), .int .i64 1099511627776] 3)))
  have HB := Lib.hid ((Rcl.new w A S R _ rfl).alloc (.cells #[.int .i64 t, .int .i64 A, .int .i64 (A + 999999), .int .i64 1099511627776] 3))
  have HC : Hid (∀ k, k < 4 → ((w.alloc (.cells #[.int .i64 A, .int .i64 S, .int .i64 R] 27)).alloc (.cells #[.int .i64 t, .int .i64 A, .int .i64 (A + 999999), .int .i64 1099511627776] 3)).cell? ⟨w.heap.size + 1, k, none⟩ = some (.int .i64 ([t, A, A + 999999, 1099511627776].getD k 0))) :=
    Lib.hid (fun k hk => cell_map _ _ [t, A, A + 999999, 1099511627776] 3 (by have := heap_alloc_new (w.alloc (.cells #[.int .i64 A, .int .i64 S, .int .i64 R] 27)) (.cells #[.int .i64 t, .int .i64 A, .int .i64 (A + 999999), .int .i64 1099511627776] 3); simpa using this) k hk)
  have HW := Lib.hid (below_alloc (below1 w (.cells #[.int .i64 A, .int .i64 S, .int .i64 R] 27)) (.cells #[.int .i64 t, .int .i64 A, .int .i64 (A + 999999), .int .i64 1099511627776] 3))
  clear hk
  go_enter Try.func15, Try.ntmps15
  go_wp2_with fail
  generalize (w.alloc (.cells #[.int .i64 A, .int .i64 S, .int .i64 R] 27)).alloc (.cells #[.int .i64 t, .int .i64 A, .int .i64 (A + 999999), .int .i64 1099511627776] 3) = W0 at HK HB HC HW ⊢
  go_loopw [23] (fun i wr => ∃ k : Nat, k ≤ 4 ∧ i = .int .i64 k ∧ Below W0.heap.size W0 wr) (fun i _ => 4 - (intOf i).toNat)
  case atStart => exact ⟨0, by omega, rfl, Below.refl _ _⟩
  case round =>
    obtain ⟨k, hk, rfl, hb⟩ := hrel
    by_cases hlt : k < 4
    · have hc : wr.cell? ⟨w.heap.size + 1, k, none⟩ = some (.int .i64 ([t, A, A + 999999, 1099511627776].getD k 0)) := (hb.cell (p := ⟨w.heap.size + 1, k, none⟩) (cell_lt (HC.out k hlt))).trans (HC.out k hlt)
      obtain ⟨u, hu⟩ : ∃ u, [t, A, A + 999999, 1099511627776].getD k 0 = u := ⟨_, rfl⟩
      rw [hu] at hc
      clear hu
      by_cases hz : showE A S R u = 0
      · have hz1 : (showE A S R u != 0) = false := by simp [hz]
        obtain ⟨t0, t1, -, v0, v1, hv⟩ := showE_ok hz
        have hd : devV A S R u = showV A S R u - u := by simp [devV, hz, hv]
        clear hv
        go_wp2_with fail
        refine (show_any _ _ _ _ _ _ (HK.out.below hb) hB).mono ?_; rintro e w1 ⟨rfl, hb1⟩
        have hq := hb.trans (hb1.mono hb.size)
        obtain ⟨c0, c1, c2⟩ := (HB.out.below hq).cs
        go_wp2_with fail
        refine (refshow_any _ _ _ _ _ hB).mono ?_; rintro e w2 ⟨rfl, hb2⟩
        have hq2 := hq.trans (hb2.mono hq.size)
        go_wp2_with fail
        refine (dev_any _ _ _ _ _ _ (HK.out.below hq2) hB).mono ?_; rintro e w3 ⟨rfl, hb3⟩
        go_wp2_with fail
        go_roundw
        case rel => exact ⟨k + 1, by omega, by go_num, hq2.trans (hb3.mono hq2.size)⟩
        case measure => simp [intOf]; omega
      · have hz1 : (showE A S R u != 0) = true := by simpa using hz
        have hv : showV A S R u = 0 := by simp [showV, hz]
        have hd : devV A S R u = 0 := by simp [devV, hz]
        clear hz
        go_wp2_with fail
        refine (show_any _ _ _ _ _ _ (HK.out.below hb) hB).mono ?_; rintro e w1 ⟨rfl, hb1⟩
        have hq := hb.trans (hb1.mono hb.size)
        obtain ⟨c0, c1, c2⟩ := (HB.out.below hq).cs
        go_wp2_with fail
        refine (refshow_any _ _ _ _ _ hB).mono ?_; rintro e w2 ⟨rfl, hb2⟩
        have hq2 := hq.trans (hb2.mono hq.size)
        go_wp2_with fail
        refine (dev_any _ _ _ _ _ _ (HK.out.below hq2) hB).mono ?_; rintro e w3 ⟨rfl, hb3⟩
        go_wp2_with fail
        go_roundw
        case rel => exact ⟨k + 1, by omega, by go_num, hq2.trans (hb3.mono hq2.size)⟩
        case measure => simp [intOf]; omega
    · go_wp2_with fail
      go_ret
      exact .bool rfl (HW.out.trans (hb.mono HW.out.size))

end Go.Proofs.Yticnklmpplicfaa
