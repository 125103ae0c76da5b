/- Contracts of New, of the closure of Exceeds, of first, and of Exceeds of package drift. -/
import Derived.Test.YticnklmpplicfaaDC
import Derived.Deep.RegionWith
import Derived.BigQuiet
import Derived.Deep.QuietTactic
import Derived.Deep.RegionHeld3
namespace Go.Proofs.Yticnklmpplicfaa
open Go.RowKit

def newOk (A S R : Int) : Bool := in2 0 1099511627776 A S && inB (-100000) 100000 R
theorem newOk_B {A S R : Int} (h : newOk A S R = true) : CkB A S R := by
  simp only [newOk, Bool.and_eq_true, in2_iff, inB_iff] at h
  exact ⟨h.1.1.1, h.1.1.2, h.1.2.1, h.1.2.2, h.2.1, h.2.2⟩

def Made (W : World) (A S R : Int) (e : Ending) (w' : World) : Prop :=
  ∃ g, e = .returned (.tuple #[.pointer (some ⟨g, 0, none⟩), .int .i64 0]) ∧ W.heap.size ≤ g ∧ Clk w' g A S R ∧ Below W.heap.size W w'

theorem cn1' (w : World) (v : Value) (T : TypeId) (b : Nat) (h : w.heap.size = b) : (w.alloc (.cells #[v] T)).cell? ⟨b, 0, none⟩ = some v := by subst h; simp

theorem cn1d (w : World) (v : Value) (T : TypeId) : (w.alloc (.cells #[v] T)).drew.cell? ⟨w.heap.size, 0, none⟩ = some v := cn1 w v T

theorem clk_new (w : World) (A S R : Int) (b : Nat) (h : w.heap.size = b) : Clk (w.alloc (.cells #[.int .i64 A, .int .i64 S, .int .i64 R, .bool true] 54)) b A S R := by subst h; exact heap_alloc_new _ _

set_option maxHeartbeats 400000 in
theorem new_ok (A S R : Int) (w : World) (h : newOk A S R = true) :
    Calls Try.prog 10 #[.int .i64 A, .int .i64 S, .int .i64 R] w (Made w A S R) := by
  simp only [newOk, Bool.and_eq_true] at h
  obtain ⟨h1, h2⟩ := h
  go_enter Try.func10, Try.ntmps10
  go_wp2_with fail
  refine (within2 _ _ _ _ _ _ (cn2a _ _ _ _) (cn2b _ _ _ _)).mono ?_; rintro e w' ⟨rfl, rfl⟩
  go_wp2_with fail
  refine (within1 _ _ _ _ _ (cn1' _ _ _ _ (by simp))).mono ?_; rintro e w' ⟨rfl, rfl⟩
  go_wp2_with fail
  go_ret2
  exact ⟨_, rfl, by omega, clk_new _ _ _ _ _ (by simp), below_alloc (below_alloc (below1 _ _) _) _⟩

def Bad (W : World) (v : Value) (c : Int) (e : Ending) (w' : World) : Prop :=
  e = .returned (.tuple #[v, .int .i64 c]) ∧ Below W.heap.size W w'

set_option maxHeartbeats 400000 in
theorem new_bad (A S R : Int) (w : World) (h : newOk A S R = false) :
    Calls Try.prog 10 #[.int .i64 A, .int .i64 S, .int .i64 R] w (Bad w (.pointer none) 2) := by
  rcases h1 : in2 0 1099511627776 A S with _ | _
  · clear h
    go_enter Try.func10, Try.ntmps10
    go_wp2_with fail
    refine (within2 _ _ _ _ _ _ (cn2a _ _ _ _) (cn2b _ _ _ _)).mono ?_; rintro e w' ⟨rfl, rfl⟩
    go_wp2_with fail
    go_ret2
    exact ⟨rfl, below1 _ _⟩
  · have h2 : inB (-100000) 100000 R = false := by simpa [newOk, h1] using h
    clear h
    go_enter Try.func10, Try.ntmps10
    go_wp2_with fail
    refine (within2 _ _ _ _ _ _ (cn2a _ _ _ _) (cn2b _ _ _ _)).mono ?_; rintro e w' ⟨rfl, rfl⟩
    go_wp2_with fail
    refine (within1 _ _ _ _ _ (cn1' _ _ _ _ (by simp))).mono ?_; rintro e w' ⟨rfl, rfl⟩
    go_wp2_with fail
    go_ret2
    exact ⟨rfl, below_alloc (below1 _ _) _⟩


theorem cell_lt {w : World} {p : Addr} {v : Value} (h : w.cell? p = some v) : p.block < w.heap.size := by
  rcases Nat.lt_or_ge p.block w.heap.size with hlt | hge
  · exact hlt
  · simp [World.cell?, Array.getElem?_eq_none hge] at h

/-- The deviation of a clock is above a skew. -/
def exB (A S R skew t : Int) : Bool := !inB (-skew) skew (val A S R t - t)

set_option maxHeartbeats 400000 in
theorem clo_any (g b1 b2 : Nat) (A S R skew t : Int) (w : World) (hk : Clk w g A S R) (hB : CkB A S R) (hAt : A ≤ t) (ht : t ≤ 1099511627776)
    (hs0 : 0 ≤ skew) (hs1 : skew ≤ 9223372036854775807)
    (h1 : w.cell? ⟨b1, 0, none⟩ = some (.int .i64 skew)) (h2 : w.cell? ⟨b2, 0, none⟩ = some (.pointer (some ⟨g, 0, none⟩))) :
    Calls Try.prog 44 #[.int .i64 t, .pointer (some ⟨b1, 0, none⟩), .pointer (some ⟨b2, 0, none⟩)] w fun e w' => e = .returned (.bool (exB A S R skew t)) ∧ Below w.heap.size w w' := by
  have h3 := hk.lt
  have h4 : b1 < w.heap.size := cell_lt h1
  have h5 : b2 < w.heap.size := cell_lt h2
  have hr := fun W hk => raw_any g A S R t W hk hB.a0 hAt ht hB.s0 hB.s1 hB.r0 hB.r1
  have hv1 : -2000000000000 ≤ val A S R t := by
    have := rate_bound hB.r0 hB.r1 (show 0 ≤ t - A by omega) (by have := hB.a0; omega)
    have := hB.s0
    unfold val; omega
  have hv2 : val A S R t ≤ 4000000000000 := by
    have := rate_bound hB.r0 hB.r1 (show 0 ≤ t - A by omega) (by have := hB.a0; omega)
    have := hB.s1
    have := hB.a0
    unfold val; omega
  have ht0 : 0 ≤ t := by have := hB.a0; omega
  have hw1 : IntKind.i64.wrap (-skew) = -skew := IntWalk.i64_in _ (by omega)
  have hw2 : IntKind.i64.wrap (val A S R t - t) = val A S R t - t := IntWalk.i64_in _ (by omega)
  have HK := Lib.hid hk
  have HR := Lib.hid hr
  clear hk hr
  go_enter Try.func44, Try.ntmps44
  go_wp2
  go_region_held3 (fun w' => w'.cell? ⟨b1, 0, none⟩ = some (.int .i64 skew) ∧ w'.cell? ⟨b2, 0, none⟩ = some (.pointer (some ⟨g, 0, none⟩)))
    (go_keep)
    (first
      | (go_at_call 45; ((with_reducible refine (HR.out _ HK.out.drew).mono ?_); rintro e w' ⟨rfl, rfl⟩))
      | (go_at_call 39; ((with_reducible refine (within1 _ _ _ _ _ (cn1d _ _ _)).mono ?_); rintro e w' ⟨rfl, rfl⟩)))
  go_wp2
  go_ret
  exact ⟨rfl, (below1 _ _).drew⟩


theorem ret_iv {k : IntKind} {a b : Int} {v : Value} (h : a = b) : Ending.returned (.tuple #[.int k a, v]) = .returned (.tuple #[.int k b, v]) := by rw [h]

/-- The closure that Exceeds hands on. -/
def clo (b1 b2 : Nat) : Value := .func (.func 44) #[] #[.pointer (some ⟨b1, 0, none⟩), .pointer (some ⟨b2, 0, none⟩)]

/-- What the closure reads: a clock, a skew, in memory. -/
structure Env (w : World) (g b1 b2 : Nat) (A S R skew : Int) : Prop where
  k : Clk w g A S R
  c1 : w.cell? ⟨b1, 0, none⟩ = some (.int .i64 skew)
  c2 : w.cell? ⟨b2, 0, none⟩ = some (.pointer (some ⟨g, 0, none⟩))
theorem Env.below {w w' : World} {g b1 b2 : Nat} {A S R skew : Int} (h : Env w g b1 b2 A S R skew) (hb : Below w.heap.size w w') : Env w' g b1 b2 A S R skew :=
  ⟨h.k.below hb, (hb.cell (p := ⟨b1, 0, none⟩) (cell_lt h.c1)).trans h.c1, (hb.cell (p := ⟨b2, 0, none⟩) (cell_lt h.c2)).trans h.c2⟩
structure CkS (A S R skew : Int) : Prop where
  b : CkB A S R
  k0 : 0 ≤ skew
  k1 : skew ≤ 9223372036854775807

theorem clo_call (g b1 b2 : Nat) (A S R skew t : Int) (w : World) (he : Env w g b1 b2 A S R skew) (hB : CkS A S R skew) (hAt : A ≤ t) (ht : t ≤ 1099511627776) :
    Calls Try.prog 44 #[.int .i64 t, .pointer (some ⟨b1, 0, none⟩), .pointer (some ⟨b2, 0, none⟩)] w fun e w' => e = .returned (.bool (exB A S R skew t)) ∧ Below w.heap.size w w' :=
  clo_any g b1 b2 A S R skew t w he.k hB.b hAt ht hB.k0 hB.k1 he.c1 he.c2

set_option maxHeartbeats 400000 in
theorem first_none (g b1 b2 : Nat) (A S R skew lo hi : Int) (w : World) (he : Env w g b1 b2 A S R skew) (hB : CkS A S R skew) (hAt : A ≤ hi) (ht : hi ≤ 1099511627776) (hf : exB A S R skew hi = false) :
    Calls Try.prog 46 #[.int .i64 lo, .int .i64 hi, clo b1 b2] w fun e w' => e = .returned (.tuple #[.int .i64 0, .bool false]) ∧ Below w.heap.size w w' := by
  have HE := Lib.hid he
  clear he
  unfold clo
  go_enter Try.func46, Try.ntmps46
  go_wp2_with (go_at_call 44; refine (clo_call _ _ _ _ _ _ _ _ _ HE.out hB hAt ht).mono ?_; rintro e w1 ⟨rfl, hb1⟩)
  go_ret2
  exact ⟨rfl, hb1⟩

set_option maxHeartbeats 800000 in
theorem first_some (g b1 b2 : Nat) (A S R skew lo hi r : Int) (w : World) (he : Env w g b1 b2 A S R skew) (hB : CkS A S R skew) (hA : A ≤ lo) (ht : hi ≤ 1099511627776) (h1 : lo ≤ r) (h2 : r ≤ hi)
    (hf : ∀ t, lo ≤ t → t ≤ hi → exB A S R skew t = decide (r ≤ t)) :
    Calls Try.prog 46 #[.int .i64 lo, .int .i64 hi, clo b1 b2] w fun e w' => e = .returned (.tuple #[.int .i64 r, .bool true]) ∧ Below w.heap.size w w' := by
  have HE := Lib.hid he
  have HF := Lib.hid hf
  have hA0 := hB.b.a0
  have hhi : exB A S R skew hi = true := by rw [hf hi (by omega) (by omega)]; simpa using h2
  clear he hf
  unfold clo
  go_enter Try.func46, Try.ntmps46
  go_wp2_with (go_at_call 44; refine (clo_call _ _ _ _ _ _ _ _ _ HE.out hB (by omega) ht).mono ?_; rintro e w1 ⟨rfl, hb1⟩)
  clear hhi
  go_loopw [0, 1] (fun a b wr => ∃ l h : Int, a = .int .i64 l ∧ b = .int .i64 h ∧ lo ≤ l ∧ l ≤ r ∧ r ≤ h ∧ h ≤ hi ∧ Below w.heap.size w wr) (fun a b _ => (intOf b - intOf a).toNat)
  case atStart => exact ⟨lo, hi, rfl, rfl, by omega, by omega, by omega, by omega, hb1⟩
  case round =>
    obtain ⟨l, h, rfl, rfl, i1, i2, i3, i4, hbr⟩ := hrel
    by_cases hlt : l < h
    · by_cases hm : r ≤ l + (h - l) / 2
      · have hx : exB A S R skew (l + (h - l) / 2) = true := by rw [HF.out _ (by omega) (by omega)]; simpa using hm
        go_wp2_with (go_at_call 44; refine (clo_call _ _ _ _ _ _ _ _ _ (HE.out.below hbr) hB (by omega) (by omega)).mono ?_; rintro e w2 ⟨rfl, hb2⟩)
        go_roundw
        case rel => exact ⟨l, _, rfl, rfl, by omega, by omega, by omega, by omega, below_trans hbr hb2⟩
        case measure => simp [intOf]; omega
      · have hx : exB A S R skew (l + (h - l) / 2) = false := by rw [HF.out _ (by omega) (by omega)]; simpa using hm
        go_wp2_with (go_at_call 44; refine (clo_call _ _ _ _ _ _ _ _ _ (HE.out.below hbr) hB (by omega) (by omega)).mono ?_; rintro e w2 ⟨rfl, hb2⟩)
        go_roundw
        case rel => exact ⟨_, h, rfl, rfl, by omega, by omega, by omega, by omega, below_trans hbr hb2⟩
        case measure => simp [intOf]; omega
    · have hl : l = r := by omega
      have HL := Lib.hid hl
      clear hl
      go_wp2
      go_ret2
      exact ⟨ret_iv HL.out, hbr⟩

end Go.Proofs.Yticnklmpplicfaa
