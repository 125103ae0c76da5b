/- Contracts of the methods of drift.Clock: reach, Show, Deviation, Copy, Step, SetRate, and of New. -/
import Derived.Test.YticnklmpplicfaaDA
namespace Go.Proofs.Yticnklmpplicfaa
open Go.RowKit

def reachE (A t : Int) : Int := if inB 0 1099511627776 t = true then (if t < A then 8 else 0) else 3
theorem reachE_range {A t : Int} (h : inB 0 1099511627776 t = false) : reachE A t = 3 := by simp [reachE, h]
theorem reachE_state {A t : Int} (h : inB 0 1099511627776 t = true) (h2 : t < A) : reachE A t = 8 := by simp [reachE, h, h2]
theorem reachE_ok {A t : Int} (h : inB 0 1099511627776 t = true) (h2 : ¬ t < A) : reachE A t = 0 := by simp [reachE, h, h2]

theorem reach_any (g : Nat) (A S R t : Int) (w : World) (hk : Clk w g A S R) :
    Calls Try.prog 43 #[.pointer (some ⟨g, 0, none⟩), .int .i64 t] w fun e w' => e = .returned (.int .i64 (reachE A t)) ∧ Below w.heap.size w w' := by
  have hl := hk.lt
  have h0 := hk.c0
  rcases hb : inB 0 1099511627776 t with _ | _
  · have HB := Lib.hid hb
    go_enter Try.func43, Try.ntmps43
    go_wp2_with (go_at_call 39; refine (within1 _ _ _ _ _ (cn1 _ _ _)).mono ?_; rintro e w' ⟨rfl, rfl⟩)
    go_ret
    exact ⟨ret_int (reachE_range HB.out).symm, below1 _ _⟩
  · by_cases h : t < A
    · have HB := Lib.hid hb
      go_enter Try.func43, Try.ntmps43
      go_wp2_with (go_at_call 39; refine (within1 _ _ _ _ _ (cn1 _ _ _)).mono ?_; rintro e w' ⟨rfl, rfl⟩)
      go_ret
      exact ⟨ret_int (reachE_state HB.out h).symm, below1 _ _⟩
    · have HB := Lib.hid hb
      go_enter Try.func43, Try.ntmps43
      go_wp2_with (go_at_call 39; refine (within1 _ _ _ _ _ (cn1 _ _ _)).mono ?_; rintro e w' ⟨rfl, rfl⟩)
      go_ret
      exact ⟨ret_int (reachE_ok HB.out (by omega)).symm, below1 _ _⟩


/-- The bounds of a clock. -/
structure CkB (A S R : Int) : Prop where
  a0 : 0 ≤ A
  a1 : A ≤ 1099511627776
  s0 : 0 ≤ S
  s1 : S ≤ 1099511627776
  r0 : -100000 ≤ R
  r1 : R ≤ 100000

def showE (A S R t : Int) : Int := if reachE A t = 0 then (if inB 0 1099511627776 (val A S R t) = true then 0 else 3) else reachE A t
def showV (A S R t : Int) : Int := if showE A S R t = 0 then val A S R t else 0
theorem reachE_inv {A t : Int} (h : reachE A t = 0) : 0 ≤ t ∧ t ≤ 1099511627776 ∧ A ≤ t := by
  unfold reachE at h
  split at h
  · rename_i hb
    have := inB_iff.1 hb
    split at h
    · omega
    · omega
  · omega

theorem ret_int2 {k l : IntKind} {a b c d : Int} (h : a = b) (h' : c = d) : Ending.returned (.tuple #[.int k a, .int l c]) = .returned (.tuple #[.int k b, .int l d]) := by rw [h, h']

theorem below_alloc {W w : World} (h : Below W.heap.size W w) (o : Obj) : Below W.heap.size W (w.alloc o) := h.alloc h.size o
theorem below_trans {W w w' : World} (h : Below W.heap.size W w) (h' : Below w.heap.size w w') : Below W.heap.size W w' := h.trans (h'.mono h.size)

theorem show_any (g : Nat) (A S R t : Int) (w : World) (hk : Clk w g A S R) (hB : CkB A S R) :
    Calls Try.prog 17 #[.pointer (some ⟨g, 0, none⟩), .int .i64 t] w fun e w' => e = .returned (.tuple #[.int .i64 (showV A S R t), .int .i64 (showE A S R t)]) ∧ Below w.heap.size w w' := by
  have c3 := hk.c3
  have HK := Lib.hid hk
  clear hk
  by_cases hr : reachE A t = 0
  · have HR := Lib.hid hr
    have hz : (reachE A t != 0) = false := by simp [hr]
    clear hr
    rcases hb : inB 0 1099511627776 (val A S R t) with _ | _
    · have HB := Lib.hid hb
      have he : showE A S R t = 3 := by simp [showE, HR.out, HB.out]
      have hv : showV A S R t = 0 := by simp [showV, he]
      have HE := Lib.hid he
      have HV := Lib.hid hv
      clear he hv
      go_enter Try.func17, Try.ntmps17
      go_wp2_with (first
        | (go_at_call 42; refine (zero_ptr _ _ _ c3).mono ?_; rintro e w' ⟨rfl, rfl⟩)
        | (go_at_call 43; refine (reach_any _ _ _ _ _ _ HK.out).mono ?_; rintro e w1 ⟨rfl, hb1⟩)
        | (go_at_call 45; refine (raw_any _ _ _ _ _ _ (HK.out.below hb1) hB.a0 (reachE_inv HR.out).2.2 (reachE_inv HR.out).2.1 hB.s0 hB.s1 hB.r0 hB.r1).mono ?_; rintro e w' ⟨rfl, rfl⟩)
        | (go_at_call 39; refine (within1 _ _ _ _ _ (cn1 _ _ _)).mono ?_; rintro e w' ⟨rfl, rfl⟩))
      go_ret2
      exact ⟨ret_int2 HV.out.symm HE.out.symm, below_alloc hb1 _⟩
    · have HB := Lib.hid hb
      have he : showE A S R t = 0 := by simp [showE, HR.out, HB.out]
      have hv : showV A S R t = val A S R t := by simp [showV, he]
      have HE := Lib.hid he
      have HV := Lib.hid hv
      clear he hv
      go_enter Try.func17, Try.ntmps17
      go_wp2_with (first
        | (go_at_call 42; refine (zero_ptr _ _ _ c3).mono ?_; rintro e w' ⟨rfl, rfl⟩)
        | (go_at_call 43; refine (reach_any _ _ _ _ _ _ HK.out).mono ?_; rintro e w1 ⟨rfl, hb1⟩)
        | (go_at_call 45; refine (raw_any _ _ _ _ _ _ (HK.out.below hb1) hB.a0 (reachE_inv HR.out).2.2 (reachE_inv HR.out).2.1 hB.s0 hB.s1 hB.r0 hB.r1).mono ?_; rintro e w' ⟨rfl, rfl⟩)
        | (go_at_call 39; refine (within1 _ _ _ _ _ (cn1 _ _ _)).mono ?_; rintro e w' ⟨rfl, rfl⟩))
      go_ret2
      exact ⟨ret_int2 HV.out.symm HE.out.symm, below_alloc hb1 _⟩
  · have hz : (reachE A t != 0) = true := by simpa using hr
    have he : showE A S R t = reachE A t := by simp [showE, hr]
    have hv : showV A S R t = 0 := by simp [showV, he, hr]
    have HE := Lib.hid he
    have HV := Lib.hid hv
    clear he hv hr
    go_enter Try.func17, Try.ntmps17
    go_wp2_with (first
      | (go_at_call 42; refine (zero_ptr _ _ _ c3).mono ?_; rintro e w' ⟨rfl, rfl⟩)
      | (go_at_call 43; refine (reach_any _ _ _ _ _ _ HK.out).mono ?_; rintro e w1 ⟨rfl, hb1⟩))
    go_ret2
    exact ⟨ret_int2 HV.out.symm HE.out.symm, hb1⟩

end Go.Proofs.Yticnklmpplicfaa
