/- Contracts of Deviation, Copy, Step, SetRate and New of package drift. -/
import Derived.Test.YticnklmpplicfaaDB
namespace Go.Proofs.Yticnklmpplicfaa
open Go.RowKit

theorem showE_ok {A S R t : Int} (h : showE A S R t = 0) : 0 ≤ t ∧ t ≤ 1099511627776 ∧ A ≤ t ∧ 0 ≤ showV A S R t ∧ showV A S R t ≤ 1099511627776 ∧ showV A S R t = val A S R t := by
  have hv : showV A S R t = val A S R t := by simp [showV, h]
  unfold showE at h
  split at h
  · rename_i hr
    have := reachE_inv hr
    split at h
    · rename_i hb
      have := inB_iff.1 hb
      rw [hv]
      omega
    · omega
  · contradiction

def devV (A S R t : Int) : Int := if showE A S R t = 0 then val A S R t - t else 0

theorem dev_any (g : Nat) (A S R t : Int) (w : World) (hk : Clk w g A S R) (hB : CkB A S R) :
    Calls Try.prog 20 #[.pointer (some ⟨g, 0, none⟩), .int .i64 t] w fun e w' => e = .returned (.tuple #[.int .i64 (devV A S R t), .int .i64 (showE A S R t)]) ∧ Below w.heap.size w w' := by
  have HK := Lib.hid hk
  clear hk
  by_cases hr : showE A S R t = 0
  · have hz : (showE A S R t != 0) = false := by simp [hr]
    obtain ⟨t0, t1, _, v0, v1, hv⟩ := showE_ok hr
    have hd : devV A S R t = showV A S R t - t := by simp [devV, hr, hv]
    have HD := Lib.hid hd
    have HR := Lib.hid hr
    clear hr hv hd
    go_enter Try.func20, Try.ntmps20
    go_wp2_with (go_at_call 17; refine (show_any _ _ _ _ _ _ HK.out hB).mono ?_; rintro e w1 ⟨rfl, hb1⟩)
    go_ret2
    exact ⟨ret_int2 HD.out.symm HR.out.symm, hb1⟩
  · have hz : (showE A S R t != 0) = true := by simpa using hr
    have hd : devV A S R t = 0 := by simp [devV, hr]
    have HD := Lib.hid hd
    clear hr hd
    go_enter Try.func20, Try.ntmps20
    go_wp2_with (go_at_call 17; refine (show_any _ _ _ _ _ _ HK.out hB).mono ?_; rintro e w1 ⟨rfl, hb1⟩)
    go_ret2
    exact ⟨ret_int2 HD.out.symm rfl, hb1⟩

theorem copy_nil (w : World) : Calls Try.prog 18 #[.pointer none] w fun e w' => e = .returned (.pointer none) ∧ w = w' := by
  go_enter Try.func18, Try.ntmps18
  go_wp2_with (go_at_call 42; refine (zero_nil _).mono ?_; rintro e w' ⟨rfl, rfl⟩)
  go_ret
  exact ⟨rfl, rfl⟩

theorem copy_any (g : Nat) (A S R : Int) (w : World) (hk : Clk w g A S R) :
    Calls Try.prog 18 #[.pointer (some ⟨g, 0, none⟩)] w fun e w' => e = .returned (.pointer (some ⟨w.heap.size, 0, none⟩)) ∧ Clk w' w.heap.size A S R ∧ Below w.heap.size w w' := by
  have c0 := hk.c0
  have c1 := hk.c1
  have c2 := hk.c2
  have c3 := hk.c3
  have hl := hk.lt
  go_enter Try.func18, Try.ntmps18
  go_wp2_with (go_at_call 42; refine (zero_ptr _ _ _ c3).mono ?_; rintro e w' ⟨rfl, rfl⟩)
  go_ret
  exact ⟨rfl, heap_alloc_new w _, below1 _ _⟩


theorem only_alloc {a w : World} {row : Option Nat} (h : a.grownBy w row) (o : Obj) : a.grownBy (w.alloc o) row :=
  ⟨h.os, h.tape, h.output, Nat.le_trans h.size (by simp), fun i hi hne => (Below.heap_alloc w o i (Nat.lt_of_lt_of_le hi h.size)).trans (h.block i hi hne)⟩
theorem only_setCell {a w : World} {g : Nat} (h : a.grownBy w (some g)) {p : Addr} (hp : p.block = g ∨ a.heap.size ≤ p.block) (u : Value) : a.grownBy (w.setCell p u) (some g) :=
  ⟨h.os, h.tape, h.output, by simpa [World.setCell] using h.size, fun i hi hne => (Below.heap_setCell w p u i (by
    rintro rfl
    rcases hp with hp | hp
    · exact hne (by rw [hp])
    · omega)).trans (h.block i hi hne)⟩
theorem only_of_below {a w : World} (h : Below a.heap.size a w) (row : Option Nat) : a.grownBy w row := ⟨h.os, h.tape, h.output, h.size, fun i hi _ => h.block i hi⟩

theorem only_set {a w : World} {g : Nat} (h : a.grownBy w (some g)) (i : Nat) (u : Value) : a.grownBy (w.setCell ⟨g, i, none⟩ u) (some g) := only_setCell h (.inl rfl) u

theorem set_cell_block {w : World} {g i : Nat} {cs : Array Value} {t : TypeId} (h : w.heap[g]? = some (.cells cs t (0, 0))) (u : Value) :
    (w.setCell ⟨g, i, none⟩ u).heap[g]? = some (.cells (cs.setIfInBounds i u) t (0, 0)) := by
  simp [World.setCell, Array.getElem?_modify, h]
theorem Clk.set0 {w : World} {g : Nat} {A S R : Int} (h : Clk w g A S R) (x : Int) : Clk (w.setCell ⟨g, 0, none⟩ (.int .i64 x)) g x S R := set_cell_block h _
theorem Clk.set1 {w : World} {g : Nat} {A S R : Int} (h : Clk w g A S R) (x : Int) : Clk (w.setCell ⟨g, 1, none⟩ (.int .i64 x)) g A x R := set_cell_block h _
theorem Clk.set2 {w : World} {g : Nat} {A S R : Int} (h : Clk w g A S R) (x : Int) : Clk (w.setCell ⟨g, 2, none⟩ (.int .i64 x)) g A S x := set_cell_block h _

def stepE (A S R t b : Int) : Int := if showE A S R t = 0 then (if inB (-(showV A S R t)) (1099511627776 - showV A S R t) b = true then 0 else 3) else showE A S R t
def stepA (A S R t b : Int) : Int := if stepE A S R t b = 0 then t else A
def stepS (A S R t b : Int) : Int := if stepE A S R t b = 0 then showV A S R t + b else S

theorem step_any (g : Nat) (A S R t b : Int) (w : World) (hk : Clk w g A S R) (hB : CkB A S R) :
    Calls Try.prog 23 #[.pointer (some ⟨g, 0, none⟩), .int .i64 t, .int .i64 b] w fun e w' =>
      e = .returned (.int .i64 (stepE A S R t b)) ∧ Clk w' g (stepA A S R t b) (stepS A S R t b) R ∧ w.grownBy w' (some g) := by
  have HK := Lib.hid hk
  clear hk
  by_cases hr : showE A S R t = 0
  · have hz : (showE A S R t != 0) = false := by simp [hr]
    obtain ⟨t0, t1, -, v0, v1, -⟩ := showE_ok hr
    have HR := Lib.hid hr
    clear hr
    rcases hb : inB (-(showV A S R t)) (1099511627776 - showV A S R t) b with _ | _
    · have he : stepE A S R t b = 3 := by simp [stepE, HR.out, hb]
      have ha : stepA A S R t b = A := by simp [stepA, he]
      have hs : stepS A S R t b = S := by simp [stepS, he]
      have HE := Lib.hid he
      have HA := Lib.hid ha
      have HS := Lib.hid hs
      clear he ha hs
      go_enter Try.func23, Try.ntmps23
      go_wp2_with (first
        | (go_at_call 17; refine (show_any _ _ _ _ _ _ HK.out hB).mono ?_; rintro e w1 ⟨rfl, hb1⟩)
        | (go_at_call 39; refine (within1 _ _ _ _ _ (cn1 _ _ _)).mono ?_; rintro e w' ⟨rfl, rfl⟩))
      go_ret
      refine ⟨ret_int HE.out.symm, ?_, only_of_below (below_alloc hb1 _) _⟩
      rw [HA.out, HS.out]
      exact (HK.out.below hb1).alloc _
    · have he : stepE A S R t b = 0 := by simp [stepE, HR.out, hb]
      have ha : stepA A S R t b = t := by simp [stepA, he]
      have hs : stepS A S R t b = showV A S R t + b := by simp [stepS, he]
      obtain ⟨b0, b1⟩ := inB_iff.1 hb
      have HE := Lib.hid he
      have HA := Lib.hid ha
      have HS := Lib.hid hs
      clear he ha hs
      go_enter Try.func23, Try.ntmps23
      go_wp2_with (first
        | (go_at_call 17; refine (show_any _ _ _ _ _ _ HK.out hB).mono ?_; rintro e w1 ⟨rfl, hb1⟩; have hk1 := HK.out.below hb1; have f0 := hk1.free 0; have f1 := hk1.free 1; have l1 := hk1.lt; have d0 := hk1.c0; have d1 := hk1.c1; have HK1 := Lib.hid hk1; clear hk1)
        | (go_at_call 39; refine (within1 _ _ _ _ _ (cn1 _ _ _)).mono ?_; rintro e w' ⟨rfl, rfl⟩))
      go_ret
      refine ⟨ret_int HE.out.symm, ?_, only_alloc (only_set (only_set (only_of_below hb1 _) _ _) _ _) _⟩
      rw [HA.out, HS.out]
      exact ((HK1.out.set0 _).set1 _).alloc _
  · have hz : (showE A S R t != 0) = true := by simpa using hr
    have he : stepE A S R t b = showE A S R t := by simp [stepE, hr]
    have ha : stepA A S R t b = A := by simp [stepA, he, hr]
    have hs : stepS A S R t b = S := by simp [stepS, he, hr]
    have HE := Lib.hid he
    have HA := Lib.hid ha
    have HS := Lib.hid hs
    clear he ha hs hr
    go_enter Try.func23, Try.ntmps23
    go_wp2_with (go_at_call 17; refine (show_any _ _ _ _ _ _ HK.out hB).mono ?_; rintro e w1 ⟨rfl, hb1⟩)
    go_ret
    refine ⟨ret_int HE.out.symm, ?_, only_of_below hb1 _⟩
    rw [HA.out, HS.out]
    exact HK.out.below hb1


def setE (A S R t r : Int) : Int := if inB (-100000) 100000 r = true then showE A S R t else 2
def setA (A S R t r : Int) : Int := if setE A S R t r = 0 then t else A
def setS (A S R t r : Int) : Int := if setE A S R t r = 0 then showV A S R t else S
def setR (A S R t r : Int) : Int := if setE A S R t r = 0 then r else R

theorem set_any (g : Nat) (A S R t r : Int) (w : World) (hk : Clk w g A S R) (hB : CkB A S R) :
    Calls Try.prog 19 #[.pointer (some ⟨g, 0, none⟩), .int .i64 t, .int .i64 r] w fun e w' =>
      e = .returned (.int .i64 (setE A S R t r)) ∧ Clk w' g (setA A S R t r) (setS A S R t r) (setR A S R t r) ∧ w.grownBy w' (some g) := by
  have c3 := hk.c3
  have HK := Lib.hid hk
  clear hk
  rcases hb : inB (-100000) 100000 r with _ | _
  · have he : setE A S R t r = 2 := by simp [setE, hb]
    have ha : setA A S R t r = A := by simp [setA, he]
    have hs : setS A S R t r = S := by simp [setS, he]
    have hr : setR A S R t r = R := by simp [setR, he]
    have HE := Lib.hid he
    have HA := Lib.hid ha
    have HS := Lib.hid hs
    have HR := Lib.hid hr
    clear he ha hs hr
    go_enter Try.func19, Try.ntmps19
    go_wp2_with (first
      | (go_at_call 42; refine (zero_ptr _ _ _ c3).mono ?_; rintro e w' ⟨rfl, rfl⟩)
      | (go_at_call 39; refine (within1 _ _ _ _ _ (cn1 _ _ _)).mono ?_; rintro e w' ⟨rfl, rfl⟩))
    go_ret
    refine ⟨ret_int HE.out.symm, ?_, only_of_below (below1 _ _) _⟩
    rw [HA.out, HS.out, HR.out]
    exact HK.out.alloc _
  · by_cases hz : showE A S R t = 0
    · have hz' : (showE A S R t != 0) = false := by simp [hz]
      have he : setE A S R t r = 0 := by simp [setE, hb, hz]
      have ha : setA A S R t r = t := by simp [setA, he]
      have hs : setS A S R t r = showV A S R t := by simp [setS, he]
      have hr : setR A S R t r = r := by simp [setR, he]
      have HE := Lib.hid he
      have HA := Lib.hid ha
      have HS := Lib.hid hs
      have HR := Lib.hid hr
      clear he ha hs hr hz
      go_enter Try.func19, Try.ntmps19
      go_wp2_with (first
        | (go_at_call 42; refine (zero_ptr _ _ _ c3).mono ?_; rintro e w' ⟨rfl, rfl⟩)
        | (go_at_call 39; refine (within1 _ _ _ _ _ (cn1 _ _ _)).mono ?_; rintro e w' ⟨rfl, rfl⟩)
        | (go_at_call 17; refine (show_any _ _ _ _ _ _ (HK.out.alloc _) hB).mono ?_; rintro e w1 ⟨rfl, hb1⟩; have hk1 := (HK.out.alloc _).below hb1; have f0 := hk1.free 0; have f1 := hk1.free 1; have f2 := hk1.free 2; have l1 := hk1.lt; have d0 := hk1.c0; have d1 := hk1.c1; have d2 := hk1.c2; have HK1 := Lib.hid hk1; clear hk1))
      go_ret
      refine ⟨ret_int HE.out.symm, ?_, only_set (only_set (only_set (only_of_below (below_trans (below1 _ _) hb1) _) _ _) _ _) _ _⟩
      rw [HA.out, HS.out, HR.out]
      exact ((HK1.out.set0 _).set1 _).set2 _
    · have hz' : (showE A S R t != 0) = true := by simpa using hz
      have he : setE A S R t r = showE A S R t := by simp [setE, hb]
      have ha : setA A S R t r = A := by simp [setA, he, hz]
      have hs : setS A S R t r = S := by simp [setS, he, hz]
      have hr : setR A S R t r = R := by simp [setR, he, hz]
      have HE := Lib.hid he
      have HA := Lib.hid ha
      have HS := Lib.hid hs
      have HR := Lib.hid hr
      clear he ha hs hr hz
      go_enter Try.func19, Try.ntmps19
      go_wp2_with (first
        | (go_at_call 42; refine (zero_ptr _ _ _ c3).mono ?_; rintro e w' ⟨rfl, rfl⟩)
        | (go_at_call 39; refine (within1 _ _ _ _ _ (cn1 _ _ _)).mono ?_; rintro e w' ⟨rfl, rfl⟩)
        | (go_at_call 17; refine (show_any _ _ _ _ _ _ (HK.out.alloc _) hB).mono ?_; rintro e w1 ⟨rfl, hb1⟩))
      go_ret
      refine ⟨ret_int HE.out.symm, ?_, only_of_below (below_trans (below1 _ _) hb1) _⟩
      rw [HA.out, HS.out, HR.out]
      exact (HK.out.alloc _).below hb1

end Go.Proofs.Yticnklmpplicfaa
