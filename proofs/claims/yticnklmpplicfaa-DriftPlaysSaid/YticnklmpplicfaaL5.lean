/- The walk of DriftPlays: it returns true whatever the numbers and the calls are. -/
import Derived.Test.YticnklmpplicfaaDW
import Derived.Deep.RegionWith
namespace Go.Proofs.Yticnklmpplicfaa
open Go.RowKit

theorem Rcl.kept {w w' : World} {g : Nat} {A S R : Int} {T : Nat → Prop} (h : Rcl w g A S R) (hk : Kept T w w') (hn : ¬ T g) : Rcl w' g A S R := (hk.block g h.lt hn).trans h
theorem kept_cell {w w' : World} {T : Nat → Prop} (hk : Kept T w w') {p : Addr} {v : Value} (h : w.cell? p = some v) (hn : ¬ T p.block) : w'.cell? p = some v :=
  (World.cell?_of_block (hk.block p.block (cell_lt h) hn)).trans h

set_option maxHeartbeats 1600000 in
theorem plays_long (A S R : Int) (a : Option Addr) (n cap : Nat) (w : World) (h : 30 < n) (hn : n ≤ 9223372036854775807) :
    Calls Try.prog 4 #[.int .i64 A, .int .i64 S, .int .i64 R, .slice a n cap] w (RetB w (.bool true)) := by
  go_enter Try.func4, Try.ntmps4
  go_wp2_with fail
  refine (known47 _).mono ?_; rintro e wz ⟨rfl, hz⟩
  go_wp2_with fail
  go_ret
  exact .bool rfl hz

set_option maxHeartbeats 1600000 in
theorem plays_bad (A S R : Int) (a : Option Addr) (n cap : Nat) (w : World) (h : n ≤ 30) (hn : newOk A S R = false) :
    Calls Try.prog 4 #[.int .i64 A, .int .i64 S, .int .i64 R, .slice a n cap] w (RetB w (.bool true)) := by
  have HN := Lib.hid hn
  clear hn
  by_cases h0 : n = 0
  · subst h0
    go_enter Try.func4, Try.ntmps4
    go_wp2_with fail
    refine (new_bad _ _ _ _ HN.out).mono ?_; rintro e w1 ⟨rfl, hb1⟩
    go_wp2_with fail
    refine (refnew_bad _ _ _ _ HN.out).mono ?_; rintro e w2 ⟨rfl, hb2⟩
    go_wp2_with fail
    refine wp_loop_rounds 1 ?_
    rw [rounds_succ]
    go_wp2_with fail
    refine (known47 _).mono ?_; rintro e wz ⟨rfl, hz⟩
    go_wp2_with fail
    go_ret
    exact .bool rfl (below_trans (below_trans hb1 hb2) (below_box hz))
  · have h1 : 0 < n := by omega
    go_enter Try.func4, Try.ntmps4
    go_wp2_with fail
    refine (new_bad _ _ _ _ HN.out).mono ?_; rintro e w1 ⟨rfl, hb1⟩
    go_wp2_with fail
    refine (refnew_bad _ _ _ _ HN.out).mono ?_; rintro e w2 ⟨rfl, hb2⟩
    go_wp2_with fail
    refine wp_loop_rounds 1 ?_
    rw [rounds_succ]
    go_wp2_with fail
    refine (known47 _).mono ?_; rintro e wz ⟨rfl, hz⟩
    go_wp2_with fail
    go_ret
    exact .bool rfl (below_trans (below_trans hb1 hb2) (below_box hz))

set_option maxHeartbeats 3200000 in
theorem plays_ok (A S R : Int) (b off n cap : Nat) (f : Nat → Int × Int × Int) (w : World) (h : n ≤ 30) (hn : newOk A S R = true)
    (hc : ∀ k, k < n → w.cell? ⟨b, off + k * 3, none⟩ = some (.int .i64 (f k).1) ∧ w.cell? ⟨b, off + k * 3 + 1, none⟩ = some (.int .i64 (f k).2.1) ∧ w.cell? ⟨b, off + k * 3 + 2, none⟩ = some (.int .i64 (f k).2.2)) :
    Calls Try.prog 4 #[.int .i64 A, .int .i64 S, .int .i64 R, .slice (some ⟨b, off, none⟩) n cap] w (RetB w (.bool true)) := by
  have HN := Lib.hid hn
  have HC := Lib.hid hc
  have hB := newOk_B hn
  have hd : decide (30 < (n : Int)) = false := by simp; omega
  clear hn hc
  go_enter Try.func4, Try.ntmps4
  go_wp2_with fail
  refine (new_ok _ _ _ _ HN.out).mono ?_; rintro e w1 ⟨g, rfl, hg, hk1, hb1⟩
  go_wp2_with fail
  refine (refnew_ok _ _ _ _ HN.out).mono ?_; rintro e w2 ⟨rfl, hb2⟩
  have hk2 := hk1.below hb2
  have hr2 := Rcl.new w2 A S R _ rfl
  have hb := below_alloc (below_trans hb1 hb2) (.cells #[.int .i64 A, .int .i64 S, .int .i64 R] 27)
  have hgr : g < w2.heap.size := hk2.lt
  go_wp2_with fail
  refine (agrees_any _ _ _ _ _ _ (hk2.alloc _) hB).mono ?_; rintro e w3 ⟨rfl, hb3⟩
  have hk3 := (hk2.alloc _).below hb3
  have hr3 := hr2.below hb3
  have hb := hb.trans (hb3.mono hb.size)
  clear hk1 hk2 hr2 hb1 hb2 hb3
  go_wp2_with fail
  obtain ⟨rb, hrb⟩ : ∃ rb, rb = w2.heap.size := ⟨_, rfl⟩
  go_loopw [9, 13, 14] (fun c f i wr => ∃ (k g : Nat) (A S R : Int), k ≤ n ∧ i = .int .i64 k ∧ c = .pointer (some ⟨g, 0, none⟩) ∧ f = .bool true ∧ Clk wr g A S R ∧ CkB A S R ∧ Rcl wr w2.heap.size A S R ∧ g ≠ w2.heap.size ∧ w.heap.size ≤ g ∧ Below w.heap.size w wr) (fun _ _ i _ => n - (intOf i).toNat)
  case atStart => exact ⟨0, g, A, S, R, Nat.zero_le _, rfl, rfl, rfl, hk3, hB, hr3, by omega, hg, hb⟩
  case round =>
    clear hk3 hr3 hb hB
    obtain ⟨k, g, A, S, R, hk, rfl, rfl, rfl, hkr, hB, hrr, hne, hg, hb⟩ := hrel
    by_cases hlt : k < n
    · obtain ⟨h1, h2, h3⟩ := HC.out k hlt
      have c1 : wr.cell? ⟨b, off + k * 3, none⟩ = some (.int .i64 (f k).1) := (hb.cell (p := ⟨b, off + k * 3, none⟩) (cell_lt h1)).trans h1
      have c2 : wr.cell? ⟨b, off + k * 3 + 1, none⟩ = some (.int .i64 (f k).2.1) := (hb.cell (p := ⟨b, off + k * 3 + 1, none⟩) (cell_lt h2)).trans h2
      have c3 : wr.cell? ⟨b, off + k * 3 + 2, none⟩ = some (.int .i64 (f k).2.2) := (hb.cell (p := ⟨b, off + k * 3 + 2, none⟩) (cell_lt h3)).trans h3
      clear h1 h2 h3
      obtain ⟨r0, r1, r2⟩ := hrr.cs
      have HK := Lib.hid hkr
      have HR := Lib.hid hrr
      clear hkr hrr
      go_wp2_with fail
      have hgw : g < wr.heap.size := HK.out.lt
      have hrw : w2.heap.size < wr.heap.size := HR.out.lt
      have hbl := cell_lt c1
      have hbg : b < w.heap.size := cell_lt (HC.out k hlt).1
      simp only at hbl
      have hi0 : (0 : Int) ≤ (k : Int) := Int.natCast_nonneg _
      have hi1 : (k : Int) < (n : Int) := by omega
      have hnb : b ≠ w2.heap.size := by omega
      go_region_with (first
          | (go_at_call 16; ((with_reducible refine (do_any g A S R _ _ _ _ (HK.out.drew) hB).mono ?_); rintro e w4 ⟨g', A', S', R', rfl, hg', hk', hB', hkp⟩; have q1 := kept_cell (w := wr.drew) hkp c1 (by simp; omega); have q2 := kept_cell (w := wr.drew) hkp c2 (by simp; omega); have q3 := kept_cell (w := wr.drew) hkp c3 (by simp; omega); have hr4 := Rcl.kept (w := wr.drew) HR.out hkp (by omega); have q4 := hr4.cs; obtain ⟨q4, q5, q6⟩ := q4; have q7 := hr4.free; obtain ⟨q7, q8, q9⟩ := q7; have q10 := hr4.lt; have HR4 := Lib.hid hr4; clear hr4)))
      all_goals
        have hbq := hkp.below (B := w.heap.size) hb.size (fun i hi => by subst hi; exact hg)
        have hbz : Below w.heap.size w w4 := hb.drew.trans hbq
        have hzz := hbz.size
        have hds : wr.heap.size ≤ wr.drew.heap.size := Nat.le_refl _
        go_wp2_with fail
        go_roundw
        case rel => exact ⟨k + 1, g', A', S', R', by omega, by go_num, rfl, rfl, ((hk'.far (by omega) _ _).far (by omega) _ _).far (by omega) _ _, hB', HR4.out.setAll A' S' R', by omega, by omega, ((hbz.setCell (by simp; omega) _).setCell (by simp; omega) _).setCell (by simp; omega) _⟩
        case measure => simp [intOf]; omega
    · go_wp2_with fail
      refine (known47 _).mono ?_; rintro e wz ⟨rfl, hz⟩
      go_wp2_with fail
      go_ret
      exact .bool rfl (below_trans hb hz)


set_option maxHeartbeats 1600000 in
theorem plays_zero (A S R : Int) (a : Option Addr) (cap : Nat) (w : World) (hn : newOk A S R = true) :
    Calls Try.prog 4 #[.int .i64 A, .int .i64 S, .int .i64 R, .slice a 0 cap] w (RetB w (.bool true)) := by
  have HN := Lib.hid hn
  have hB := newOk_B hn
  clear hn
  go_enter Try.func4, Try.ntmps4
  go_wp2_with fail
  refine (new_ok _ _ _ _ HN.out).mono ?_; rintro e w1 ⟨g, rfl, hg, hk1, hb1⟩
  go_wp2_with fail
  refine (refnew_ok _ _ _ _ HN.out).mono ?_; rintro e w2 ⟨rfl, hb2⟩
  have hk2 := hk1.below hb2
  have hb := below_alloc (below_trans hb1 hb2) (.cells #[.int .i64 A, .int .i64 S, .int .i64 R] 27)
  go_wp2_with fail
  refine (agrees_any _ _ _ _ _ _ (hk2.alloc _) hB).mono ?_; rintro e w3 ⟨rfl, hb3⟩
  have hb := hb.trans (hb3.mono hb.size)
  go_wp2_with fail
  refine wp_loop_rounds 1 ?_
  rw [rounds_succ]
  go_wp2_with fail
  refine (known47 _).mono ?_; rintro e wz ⟨rfl, hz⟩
  go_wp2_with fail
  go_ret
  exact .bool rfl (below_trans hb hz)

/-- What the slice of calls reads as: its length, and three numbers for each call. -/
structure Acts (w : World) (a : Option Addr) (n : Nat) : Prop where
  len : n ≤ 9223372036854775807
  cells : 0 < n → ∃ (b off : Nat) (f : Nat → Int × Int × Int), a = some ⟨b, off, none⟩ ∧ ∀ k, k < n → w.cell? ⟨b, off + k * 3, none⟩ = some (.int .i64 (f k).1) ∧ w.cell? ⟨b, off + k * 3 + 1, none⟩ = some (.int .i64 (f k).2.1) ∧ w.cell? ⟨b, off + k * 3 + 2, none⟩ = some (.int .i64 (f k).2.2)

theorem law_plays (A S R : Int) (a : Option Addr) (n cap : Nat) (w : World) (ha : Acts w a n) :
    Calls Try.prog 4 #[.int .i64 A, .int .i64 S, .int .i64 R, .slice a n cap] w (RetB w (.bool true)) := by
  by_cases h : 30 < n
  · exact plays_long A S R a n cap w h ha.len
  rcases hn : newOk A S R with _ | _
  · exact plays_bad A S R a n cap w (by omega) hn
  by_cases h0 : n = 0
  · subst h0; exact plays_zero A S R a cap w hn
  obtain ⟨b, off, f, rfl, hc⟩ := ha.cells (by omega)
  exact plays_ok A S R b off n cap f w (by omega) hn hc

end Go.Proofs.Yticnklmpplicfaa
