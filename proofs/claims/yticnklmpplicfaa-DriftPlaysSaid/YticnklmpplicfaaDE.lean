/- Contracts of Exceeds and Within of package drift; the plain law of the first excess. -/
import Derived.Test.YticnklmpplicfaaDD
namespace Go.Proofs.Yticnklmpplicfaa
open Go.RowKit

/-- v, c: what Exceeds answers at a clock, a time and a skew. -/
def ExR (A S R t skew v c : Int) : Prop :=
  (skew < 0 ∧ v = 0 ∧ c = 2) ∨ (0 ≤ skew ∧ reachE A t ≠ 0 ∧ v = 0 ∧ c = reachE A t) ∨ (0 ≤ skew ∧ reachE A t = 0 ∧ exB A S R skew t = true ∧ v = t ∧ c = 0) ∨
  (0 ≤ skew ∧ reachE A t = 0 ∧ exB A S R skew t = false ∧ exB A S R skew 1099511627776 = false ∧ v = 0 ∧ c = 9) ∨
  (0 ≤ skew ∧ reachE A t = 0 ∧ exB A S R skew t = false ∧ exB A S R skew 1099511627776 = true ∧ t < v ∧ v ≤ 1099511627776 ∧ (∀ u, t ≤ u → u ≤ 1099511627776 → exB A S R skew u = decide (v ≤ u)) ∧ c = 0)

theorem mul_mono {R p q : Int} (h : 0 ≤ R) (hp : p ≤ q) : R * p ≤ R * q := Int.mul_le_mul_of_nonneg_left hp h
theorem mul_anti {R p q : Int} (h : R ≤ 0) (hp : p ≤ q) : R * q ≤ R * p := Int.mul_le_mul_of_nonpos_left h hp

theorem exB_mono {A S R skew t u : Int} (h0 : exB A S R skew t = false) (htu : t ≤ u) (s : Int) (hus : u ≤ s) (hu : exB A S R skew u = true) : exB A S R skew s = true := by
  simp only [exB, Bool.not_eq_false', Bool.not_eq_true', inB_iff, inB_f] at h0 hu ⊢
  unfold val at *
  rcases Int.le_total 0 R with hR | hR
  · have h1 := mul_mono hR (show t - A ≤ u - A by omega)
    have h2 := mul_mono hR (show u - A ≤ s - A by omega)
    omega
  · have h1 := mul_anti hR (show t - A ≤ u - A by omega)
    have h2 := mul_anti hR (show u - A ≤ s - A by omega)
    omega

theorem exR_total (A S R t skew : Int) : ∃ v c, ExR A S R t skew v c := by
  by_cases h1 : skew < 0
  · exact ⟨0, 2, .inl ⟨h1, rfl, rfl⟩⟩
  by_cases h2 : reachE A t = 0
  · rcases h3 : exB A S R skew t with _ | _
    · rcases h4 : exB A S R skew 1099511627776 with _ | _
      · exact ⟨0, 9, .inr (.inr (.inr (.inl ⟨by omega, h2, h3, h4, rfl, rfl⟩)))⟩
      · have hr := reachE_inv h2
        -- the least n with an excess at t + n
        have hex : ∃ n : Nat, exB A S R skew (t + n) = true := ⟨(1099511627776 - t).toNat, by rw [show t + ((1099511627776 - t).toNat : Int) = 1099511627776 by omega]; exact h4⟩
        obtain ⟨n, hn, hmin⟩ : ∃ n : Nat, exB A S R skew (t + n) = true ∧ ∀ m : Nat, m < n → exB A S R skew (t + m) = false := by
          obtain ⟨n, hn⟩ := hex
          induction n using Nat.strongRecOn with
          | _ n ih =>
            by_cases hl : ∃ m : Nat, m < n ∧ exB A S R skew (t + m) = true
            · obtain ⟨m, hm, hx⟩ := hl
              exact ih m hm hx
            · exact ⟨n, hn, fun m hm => by
                rcases hx : exB A S R skew (t + m) with _ | _
                · rfl
                · exact absurd ⟨m, hm, hx⟩ hl⟩
        have hn0 : n ≠ 0 := by rintro rfl; simp [h3] at hn
        refine ⟨t + n, 0, .inr (.inr (.inr (.inr ⟨by omega, h2, h3, h4, by omega, ?_, ?_, rfl⟩)))⟩
        · by_cases hle : t + (n : Int) ≤ 1099511627776
          · exact hle
          · have := hmin (1099511627776 - t).toNat (by omega)
            rw [show t + ((1099511627776 - t).toNat : Int) = 1099511627776 by omega, h4] at this
            cases this
        · intro u hu1 hu2
          by_cases hc : t + (n : Int) ≤ u
          · rw [exB_mono h3 (by omega) u hc hn]; simpa using hc
          · have := hmin (u - t).toNat (by omega)
            rw [show t + ((u - t).toNat : Int) = u by omega] at this
            rw [this]; simpa using hc
    · exact ⟨t, 0, .inr (.inr (.inl ⟨by omega, h2, h3, rfl, rfl⟩))⟩
  · exact ⟨0, reachE A t, .inr (.inl ⟨by omega, h2, rfl, rfl⟩)⟩


theorem env_start (w : World) (g : Nat) (A S R skew : Int) (hk : Clk w g A S R) :
    Env ((w.alloc (.cells #[.pointer (some ⟨g, 0, none⟩)] 22)).alloc (.cells #[.int .i64 skew] 3)) g (w.heap.size + 1) w.heap.size A S R skew :=
  ⟨(hk.alloc _).alloc _, cn1' _ _ _ _ (by simp), by simp⟩

set_option maxHeartbeats 1600000 in
theorem exceeds_any (g : Nat) (A S R t skew v c : Int) (w : World) (hk : Clk w g A S R) (hB : CkB A S R) (hs : skew ≤ 9223372036854775807) (hx : ExR A S R t skew v c) :
    Calls Try.prog 13 #[.pointer (some ⟨g, 0, none⟩), .int .i64 t, .int .i64 skew] w fun e w' => e = .returned (.tuple #[.int .i64 v, .int .i64 c]) ∧ Below w.heap.size w w' := by
  have c3 := hk.c3
  have hl := hk.lt
  have c3' : ((w.alloc (.cells #[.pointer (some ⟨g, 0, none⟩)] 22)).alloc (.cells #[.int .i64 skew] 3)).cell? ⟨g, 3, none⟩ = some (.bool true) := ((hk.alloc _).alloc _).c3
  have hE := env_start w g A S R skew hk
  have HK := Lib.hid hE.k
  have HE := Lib.hid hE
  have C3 := Lib.hid c3'
  clear hE hk c3' c3
  have b0 : Below w.heap.size w ((w.alloc (.cells #[.pointer (some ⟨g, 0, none⟩)] 22)).alloc (.cells #[.int .i64 skew] 3)) := below_alloc (below1 _ _) _
  rcases hx with ⟨h1, rfl, rfl⟩ | ⟨h1, h2, rfl, rfl⟩ | ⟨h1, h2, h3, rfl, rfl⟩ | ⟨h1, h2, h3, h4, rfl, rfl⟩ | ⟨h1, h2, h3, h4, h5, h6, h7, rfl⟩
  · go_enter Try.func13, Try.ntmps13
    go_wp2_with (go_at_call 42; refine (zero_ptr _ _ _ C3.out).mono ?_; rintro e w' ⟨rfl, rfl⟩)
    go_ret2
    exact ⟨rfl, b0⟩
  · have hz : (reachE A t != 0) = true := by simpa using h2
    clear h2
    go_enter Try.func13, Try.ntmps13
    go_wp2_with (first
      | (go_at_call 42; refine (zero_ptr _ _ _ C3.out).mono ?_; rintro e w' ⟨rfl, rfl⟩)
      | (go_at_call 43; refine (reach_any _ _ _ _ _ _ HK.out).mono ?_; rintro e w1 ⟨rfl, hb1⟩))
    go_ret2
    exact ⟨rfl, b0.trans (hb1.mono b0.size)⟩
  · have hz : (reachE A v != 0) = false := by simp [h2]
    have hr := reachE_inv h2
    have hS : CkS A S R skew := ⟨hB, h1, hs⟩
    have HX := Lib.hid h3
    obtain ⟨r0, r1, r2⟩ := hr
    clear h2
    go_enter Try.func13, Try.ntmps13
    go_wp2_with (first
      | (go_at_call 42; refine (zero_ptr _ _ _ C3.out).mono ?_; rintro e w' ⟨rfl, rfl⟩)
      | (go_at_call 43; refine (reach_any _ _ _ _ _ _ HK.out).mono ?_; rintro e w1 ⟨rfl, hb1⟩)
      | (go_at_call 44; refine (clo_call _ _ _ _ _ _ _ _ _ (HE.out.below hb1) hS r2 r1).mono ?_; rintro e w2 ⟨rfl, hb2⟩))
    go_ret2
    exact ⟨rfl, b0.trans ((hb1.trans (hb2.mono hb1.size)).mono b0.size)⟩
  · have hz : (reachE A t != 0) = false := by simp [h2]
    have hr := reachE_inv h2
    have hS : CkS A S R skew := ⟨hB, h1, hs⟩
    have HX := Lib.hid h4
    obtain ⟨r0, r1, r2⟩ := hr
    have hA1 := hB.a1
    clear h2 h4
    go_enter Try.func13, Try.ntmps13
    go_wp2_with (first
      | (go_at_call 42; refine (zero_ptr _ _ _ C3.out).mono ?_; rintro e w' ⟨rfl, rfl⟩)
      | (go_at_call 43; refine (reach_any _ _ _ _ _ _ HK.out).mono ?_; rintro e w1 ⟨rfl, hb1⟩)
      | (go_at_call 44; refine (clo_call _ _ _ _ _ _ _ _ _ (HE.out.below hb1) hS r2 r1).mono ?_; rintro e w2 ⟨rfl, hb2⟩)
      | (go_at_call 46; refine (first_none _ _ _ _ _ _ _ _ _ _ ((HE.out.below hb1).below hb2) hS hA1 (Int.le_refl _) HX.out).mono ?_; rintro e w3 ⟨rfl, hb3⟩))
    go_ret2
    exact ⟨rfl, b0.trans ((hb1.trans ((hb2.trans (hb3.mono hb2.size)).mono hb1.size)).mono b0.size)⟩
  · have hz : (reachE A t != 0) = false := by simp [h2]
    have hr := reachE_inv h2
    have hS : CkS A S R skew := ⟨hB, h1, hs⟩
    have H7 := Lib.hid h7
    obtain ⟨r0, r1, r2⟩ := hr
    clear h2 h4 h7
    go_enter Try.func13, Try.ntmps13
    go_wp2_with (first
      | (go_at_call 42; refine (zero_ptr _ _ _ C3.out).mono ?_; rintro e w' ⟨rfl, rfl⟩)
      | (go_at_call 43; refine (reach_any _ _ _ _ _ _ HK.out).mono ?_; rintro e w1 ⟨rfl, hb1⟩)
      | (go_at_call 44; refine (clo_call _ _ _ _ _ _ _ _ _ (HE.out.below hb1) hS r2 r1).mono ?_; rintro e w2 ⟨rfl, hb2⟩)
      | (go_at_call 46; refine (first_some _ _ _ _ _ _ _ _ _ v _ ((HE.out.below hb1).below hb2) hS r2 (Int.le_refl _) (Int.le_of_lt h5) h6 H7.out).mono ?_; rintro e w3 ⟨rfl, hb3⟩))
    go_ret2
    exact ⟨rfl, b0.trans ((hb1.trans ((hb2.trans (hb3.mono hb2.size)).mono hb1.size)).mono b0.size)⟩

end Go.Proofs.Yticnklmpplicfaa
