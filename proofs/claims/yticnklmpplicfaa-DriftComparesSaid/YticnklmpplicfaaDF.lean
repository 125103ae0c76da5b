/- Contracts of Within of package drift. -/
import Derived.Test.YticnklmpplicfaaDE
namespace Go.Proofs.Yticnklmpplicfaa
open Go.RowKit

def witE (A S R A' S' R' t skew : Int) : Int := if skew < 0 then 2 else if showE A S R t = 0 then showE A' S' R' t else showE A S R t
def witB (A S R A' S' R' t skew : Int) : Bool := if witE A S R A' S' R' t skew = 0 then inB (-skew) skew (showV A S R t - showV A' S' R' t) else false

def BoolErr (W : World) (b : Bool) (c : Int) (e : Ending) (w' : World) : Prop := e = .returned (.tuple #[.bool b, .int .i64 c]) ∧ Below W.heap.size W w'
theorem BoolErr.mk' {W w' : World} {b b' : Bool} {c c' : Int} (hb : b = b') (hc : c = c') (h : Below W.heap.size W w') : BoolErr W b' c' (.returned (.tuple #[.bool b, .int .i64 c])) w' := by
  subst hb; subst hc; exact ⟨rfl, h⟩

/-- The receiver is nil or zero. -/
theorem within_zero1 (g : Nat) (d : Value) (t skew : Int) (w : World) (hc : w.cell? ⟨g, 3, none⟩ = some (.bool false)) :
    Calls Try.prog 21 #[.pointer (some ⟨g, 0, none⟩), d, .int .i64 t, .int .i64 skew] w (BoolErr w false 1) := by
  go_enter Try.func21, Try.ntmps21
  go_wp2_with (go_at_call 42; refine (zero_ptr _ _ _ hc).mono ?_; rintro e w' ⟨rfl, rfl⟩)
  go_ret2
  exact .mk' rfl rfl (Below.refl _ _)
theorem within_nil1 (d : Value) (t skew : Int) (w : World) :
    Calls Try.prog 21 #[.pointer none, d, .int .i64 t, .int .i64 skew] w (BoolErr w false 1) := by
  go_enter Try.func21, Try.ntmps21
  go_wp2_with (go_at_call 42; refine (zero_nil _).mono ?_; rintro e w' ⟨rfl, rfl⟩)
  go_ret2
  exact .mk' rfl rfl (Below.refl _ _)
/-- The other clock is nil or zero. -/
theorem within_zero2 (g g' : Nat) (A S R t skew : Int) (w : World) (hk : Clk w g A S R) (hc : w.cell? ⟨g', 3, none⟩ = some (.bool false)) :
    Calls Try.prog 21 #[.pointer (some ⟨g, 0, none⟩), .pointer (some ⟨g', 0, none⟩), .int .i64 t, .int .i64 skew] w (BoolErr w false 2) := by
  have c3 := hk.c3
  have C3 := Lib.hid c3
  have HC := Lib.hid hc
  clear hk c3 hc
  go_enter Try.func21, Try.ntmps21
  go_wp2_with fail
  refine (zero_ptr _ _ _ C3.out).mono ?_; rintro e w' ⟨rfl, rfl⟩
  go_wp2_with fail
  refine (zero_ptr _ _ _ HC.out).mono ?_; rintro e w' ⟨rfl, rfl⟩
  go_wp2_with fail
  go_ret2
  exact .mk' rfl rfl (Below.refl _ _)
theorem within_nil2 (g : Nat) (A S R t skew : Int) (w : World) (hk : Clk w g A S R) :
    Calls Try.prog 21 #[.pointer (some ⟨g, 0, none⟩), .pointer none, .int .i64 t, .int .i64 skew] w (BoolErr w false 2) := by
  have c3 := hk.c3
  have C3 := Lib.hid c3
  clear hk c3
  go_enter Try.func21, Try.ntmps21
  go_wp2_with fail
  refine (zero_ptr _ _ _ C3.out).mono ?_; rintro e w' ⟨rfl, rfl⟩
  go_wp2_with fail
  refine (zero_nil _).mono ?_; rintro e w' ⟨rfl, rfl⟩
  go_wp2_with fail
  go_ret2
  exact .mk' rfl rfl (Below.refl _ _)

set_option maxHeartbeats 400000 in
theorem within_any (g g' : Nat) (A S R A' S' R' t skew : Int) (w : World) (hk : Clk w g A S R) (hk' : Clk w g' A' S' R') (hB : CkB A S R) (hB' : CkB A' S' R') (hs : skew ≤ 9223372036854775807) :
    Calls Try.prog 21 #[.pointer (some ⟨g, 0, none⟩), .pointer (some ⟨g', 0, none⟩), .int .i64 t, .int .i64 skew] w (BoolErr w (witB A S R A' S' R' t skew) (witE A S R A' S' R' t skew)) := by
  have c3 := hk.c3
  have d3 := hk'.c3
  have C3 := Lib.hid c3
  have D3 := Lib.hid d3
  have HK := Lib.hid hk
  have HK' := Lib.hid hk'
  clear hk c3 d3 hk'
  by_cases h1 : skew < 0
  · have he : witE A S R A' S' R' t skew = 2 := by simp [witE, h1]
    have hb : witB A S R A' S' R' t skew = false := by simp [witB, he]
    have HE := Lib.hid he
    have HB := Lib.hid hb
    clear he hb
    go_enter Try.func21, Try.ntmps21
    go_wp2_with fail
    refine (zero_ptr _ _ _ C3.out).mono ?_; rintro e w' ⟨rfl, rfl⟩
    go_wp2_with fail
    refine (zero_ptr _ _ _ D3.out).mono ?_; rintro e w' ⟨rfl, rfl⟩
    go_wp2_with fail
    go_ret2
    exact .mk' HB.out.symm HE.out.symm (Below.refl _ _)
  · have h1' : 0 ≤ skew := by omega
    by_cases h2 : showE A S R t = 0
    · have hz : (showE A S R t != 0) = false := by simp [h2]
      by_cases h3 : showE A' S' R' t = 0
      · have hz' : (showE A' S' R' t != 0) = false := by simp [h3]
        have he : witE A S R A' S' R' t skew = 0 := by simp [witE, h1, h2, h3]
        have hb : witB A S R A' S' R' t skew = inB (-skew) skew (showV A S R t - showV A' S' R' t) := by simp [witB, he]
        obtain ⟨-, -, -, v0, v1, -⟩ := showE_ok h2
        obtain ⟨-, -, -, v0', v1', -⟩ := showE_ok h3
        have HE := Lib.hid he
        have HB := Lib.hid hb
        clear he hb h2 h3
        go_enter Try.func21, Try.ntmps21
        go_wp2_with fail
        refine (zero_ptr _ _ _ C3.out).mono ?_; rintro e w' ⟨rfl, rfl⟩
        go_wp2_with fail
        refine (zero_ptr _ _ _ D3.out).mono ?_; rintro e w' ⟨rfl, rfl⟩
        go_wp2_with fail
        refine (show_any _ _ _ _ _ _ HK.out hB).mono ?_; rintro e w1 ⟨rfl, hb1⟩
        go_wp2_with fail
        refine (show_any _ _ _ _ _ _ (HK'.out.below hb1) hB').mono ?_; rintro e w2 ⟨rfl, hb2⟩
        go_wp2_with fail
        refine (within1 _ _ _ _ _ (cn1 _ _ _)).mono ?_; rintro e w' ⟨rfl, rfl⟩
        go_wp2_with fail
        go_ret2
        exact .mk' HB.out.symm HE.out.symm (below_alloc (below_trans hb1 hb2) _)
      · have hz' : (showE A' S' R' t != 0) = true := by simpa using h3
        have he : witE A S R A' S' R' t skew = showE A' S' R' t := by simp [witE, h1, h2]
        have hb : witB A S R A' S' R' t skew = false := by simp [witB, he, h3]
        have HE := Lib.hid he
        have HB := Lib.hid hb
        clear he hb h2 h3
        go_enter Try.func21, Try.ntmps21
        go_wp2_with fail
        refine (zero_ptr _ _ _ C3.out).mono ?_; rintro e w' ⟨rfl, rfl⟩
        go_wp2_with fail
        refine (zero_ptr _ _ _ D3.out).mono ?_; rintro e w' ⟨rfl, rfl⟩
        go_wp2_with fail
        refine (show_any _ _ _ _ _ _ HK.out hB).mono ?_; rintro e w1 ⟨rfl, hb1⟩
        go_wp2_with fail
        refine (show_any _ _ _ _ _ _ (HK'.out.below hb1) hB').mono ?_; rintro e w2 ⟨rfl, hb2⟩
        go_wp2_with fail
        go_ret2
        exact .mk' HB.out.symm HE.out.symm (below_trans hb1 hb2)
    · have hz : (showE A S R t != 0) = true := by simpa using h2
      have he : witE A S R A' S' R' t skew = showE A S R t := by simp [witE, h1, h2]
      have hb : witB A S R A' S' R' t skew = false := by simp [witB, he, h2]
      have HE := Lib.hid he
      have HB := Lib.hid hb
      clear he hb h2
      go_enter Try.func21, Try.ntmps21
      go_wp2_with fail
      refine (zero_ptr _ _ _ C3.out).mono ?_; rintro e w' ⟨rfl, rfl⟩
      go_wp2_with fail
      refine (zero_ptr _ _ _ D3.out).mono ?_; rintro e w' ⟨rfl, rfl⟩
      go_wp2_with fail
      refine (show_any _ _ _ _ _ _ HK.out hB).mono ?_; rintro e w1 ⟨rfl, hb1⟩
      go_wp2_with fail
      go_ret2
      exact .mk' HB.out.symm HE.out.symm hb1

end Go.Proofs.Yticnklmpplicfaa
