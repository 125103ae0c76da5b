/- Contracts of the leaves of package drift and of its reference: within, zero, reach, raw, time, Value. -/
import Derived.Test.YticnklmpplicfaaRows
import Derived.WalkKit
import Derived.WalkSpells
import Derived.WalkLawsBesides
import Derived.Lib.Hide
namespace Go.Proofs.Yticnklmpplicfaa
open Go.RowKit

def inB (lo hi t : Int) : Bool := decide (lo ≤ t) && decide (t ≤ hi)
theorem inB_iff {lo hi t : Int} : inB lo hi t = true ↔ lo ≤ t ∧ t ≤ hi := by simp [inB]
theorem inB_f {lo hi t : Int} : inB lo hi t = false ↔ t < lo ∨ hi < t := by
  rw [← Bool.not_eq_true, inB_iff]; omega

theorem ret_bool {a b : Bool} (h : a = b) : Ending.returned (.bool a) = .returned (.bool b) := by rw [h]
theorem ret_int {k : IntKind} {a b : Int} (h : a = b) : Ending.returned (.int k a) = .returned (.int k b) := by rw [h]

theorem time_any (t : Int) (w : World) :
    Calls Try.prog 40 #[.int .i64 t] w fun e w' => e = .returned (.bool (inB 0 1099511627776 t)) ∧ w = w' := by
  by_cases h : 0 ≤ t
  · by_cases h2 : t ≤ 1099511627776
    · go_enter Try.func40, Try.ntmps40
      go_wp2
      go_ret
      exact ⟨ret_bool (inB_iff.2 ⟨h, h2⟩).symm, rfl⟩
    · go_enter Try.func40, Try.ntmps40
      go_wp2
      go_ret
      exact ⟨ret_bool (inB_f.2 (by omega)).symm, rfl⟩
  · go_enter Try.func40, Try.ntmps40
    go_wp2
    go_ret
    exact ⟨ret_bool (inB_f.2 (by omega)).symm, rfl⟩

theorem bcell {W w1 : World} (hb : Below W.heap.size W w1) : (∀ b o, b < W.heap.size → w1.cell? ⟨b, o, none⟩ = W.cell? ⟨b, o, none⟩) ∧ (∀ b o, b < W.heap.size → w1.frozen? ⟨b, o, none⟩ = W.frozen? ⟨b, o, none⟩) :=
  ⟨fun b o h => hb.cell (p := ⟨b, o, none⟩) h, fun b o h => hb.frozen (p := ⟨b, o, none⟩) h⟩

-- within, at one value
set_option maxHeartbeats 400000 in
theorem within1 (lo hi t : Int) (b : Nat) (w : World) (hc : w.cell? ⟨b, 0, none⟩ = some (.int .i64 t)) :
    Calls Try.prog 39 #[.int .i64 lo, .int .i64 hi, .slice (some ⟨b, 0, none⟩) 1 1] w fun e w' => e = .returned (.bool (inB lo hi t)) ∧ w = w' := by
  by_cases h : lo ≤ t
  · by_cases h2 : t ≤ hi
    · go_enter Try.func39, Try.ntmps39
      go_wp2
      refine wp_loop_rounds 2 ?_
      rw [rounds_succ]
      go_wp2
      rw [rounds_succ]
      go_wp2
      go_ret
      exact ⟨ret_bool (inB_iff.2 ⟨h, h2⟩).symm, rfl⟩
    · go_enter Try.func39, Try.ntmps39
      go_wp2
      refine wp_loop_rounds 2 ?_
      rw [rounds_succ]
      go_wp2
      go_ret
      exact ⟨ret_bool (inB_f.2 (by omega)).symm, rfl⟩
  · go_enter Try.func39, Try.ntmps39
    go_wp2
    refine wp_loop_rounds 2 ?_
    rw [rounds_succ]
    go_wp2
    go_ret
    exact ⟨ret_bool (inB_f.2 (by omega)).symm, rfl⟩

def in2 (lo hi s t : Int) : Bool := inB lo hi s && inB lo hi t
theorem in2_iff {lo hi s t : Int} : in2 lo hi s t = true ↔ (lo ≤ s ∧ s ≤ hi) ∧ (lo ≤ t ∧ t ≤ hi) := by simp [in2, inB]
theorem in2_f {lo hi s t : Int} : in2 lo hi s t = false ↔ (s < lo ∨ hi < s) ∨ (t < lo ∨ hi < t) := by
  rw [← Bool.not_eq_true, in2_iff]; omega

set_option maxHeartbeats 400000 in
theorem within2_yes (lo hi s t : Int) (b : Nat) (w : World) (hc : w.cell? ⟨b, 0, none⟩ = some (.int .i64 s)) (hd : w.cell? ⟨b, 1, none⟩ = some (.int .i64 t))
    (h1 : lo ≤ s) (h2 : s ≤ hi) :
    Calls Try.prog 39 #[.int .i64 lo, .int .i64 hi, .slice (some ⟨b, 0, none⟩) 2 2] w fun e w' => e = .returned (.bool (in2 lo hi s t)) ∧ w = w' := by
  by_cases h : lo ≤ t
  · by_cases h2 : t ≤ hi
    · go_enter Try.func39, Try.ntmps39
      go_wp2
      refine wp_loop_rounds 3 ?_
      rw [rounds_succ]
      go_wp2
      rw [rounds_succ]
      go_wp2
      rw [rounds_succ]
      go_wp2
      go_ret
      exact ⟨ret_bool (in2_iff.2 (by omega)).symm, rfl⟩
    · go_enter Try.func39, Try.ntmps39
      go_wp2
      refine wp_loop_rounds 3 ?_
      rw [rounds_succ]
      go_wp2
      rw [rounds_succ]
      go_wp2
      go_ret
      exact ⟨ret_bool (in2_f.2 (by omega)).symm, rfl⟩
  · go_enter Try.func39, Try.ntmps39
    go_wp2
    refine wp_loop_rounds 3 ?_
    rw [rounds_succ]
    go_wp2
    rw [rounds_succ]
    go_wp2
    go_ret
    exact ⟨ret_bool (in2_f.2 (by omega)).symm, rfl⟩

set_option maxHeartbeats 400000 in
theorem within2_no (lo hi s t : Int) (b : Nat) (w : World) (hc : w.cell? ⟨b, 0, none⟩ = some (.int .i64 s))
    (h : s < lo ∨ hi < s) :
    Calls Try.prog 39 #[.int .i64 lo, .int .i64 hi, .slice (some ⟨b, 0, none⟩) 2 2] w fun e w' => e = .returned (.bool (in2 lo hi s t)) ∧ w = w' := by
  by_cases h1 : s < lo
  · go_enter Try.func39, Try.ntmps39
    go_wp2
    refine wp_loop_rounds 3 ?_
    rw [rounds_succ]
    go_wp2
    go_ret
    exact ⟨ret_bool (in2_f.2 (by omega)).symm, rfl⟩
  · have h2 : hi < s := by omega
    have h3 : lo ≤ s := by omega
    clear h h1
    go_enter Try.func39, Try.ntmps39
    go_wp2
    refine wp_loop_rounds 3 ?_
    rw [rounds_succ]
    go_wp2
    go_ret
    exact ⟨ret_bool (in2_f.2 (by omega)).symm, rfl⟩

theorem within2 (lo hi s t : Int) (b : Nat) (w : World) (hc : w.cell? ⟨b, 0, none⟩ = some (.int .i64 s)) (hd : w.cell? ⟨b, 1, none⟩ = some (.int .i64 t)) :
    Calls Try.prog 39 #[.int .i64 lo, .int .i64 hi, .slice (some ⟨b, 0, none⟩) 2 2] w fun e w' => e = .returned (.bool (in2 lo hi s t)) ∧ w = w' := by
  by_cases h : lo ≤ s ∧ s ≤ hi
  · exact within2_yes lo hi s t b w hc hd h.1 h.2
  · exact within2_no lo hi s t b w hc (by omega)

-- zero
theorem zero_nil (w : World) : Calls Try.prog 42 #[.pointer none] w fun e w' => e = .returned (.bool true) ∧ w = w' := by
  go_enter Try.func42, Try.ntmps42
  go_wp2
  go_ret
  exact ⟨rfl, rfl⟩

theorem zero_ptr (g : Nat) (m : Bool) (w : World) (hc : w.cell? ⟨g, 3, none⟩ = some (.bool m)) : Calls Try.prog 42 #[.pointer (some ⟨g, 0, none⟩)] w fun e w' => e = .returned (.bool (!m)) ∧ w = w' := by
  go_enter Try.func42, Try.ntmps42
  go_wp2
  go_ret
  exact ⟨rfl, rfl⟩

theorem cn1 (w : World) (v : Value) (T : TypeId) : (w.alloc (.cells #[v] T)).cell? ⟨w.heap.size, 0, none⟩ = some v := by simp
theorem cn2a (w : World) (u v : Value) (T : TypeId) : (w.alloc (.cells #[u, v] T)).cell? ⟨w.heap.size, 0, none⟩ = some u := by simp
theorem cn2b (w : World) (u v : Value) (T : TypeId) : (w.alloc (.cells #[u, v] T)).cell? ⟨w.heap.size, 1, none⟩ = some v := by simp
theorem below1 (w : World) (o : Obj) : Below w.heap.size w (w.alloc o) := (Below.refl _ _).alloc (Nat.le_refl _) _

/-- Block g is a clock with base A, shown time S and rate R. -/
def Clk (w : World) (g : Nat) (A S R : Int) : Prop := w.heap[g]? = some (.cells #[.int .i64 A, .int .i64 S, .int .i64 R, .bool true] 54 (0, 0))
theorem Clk.lt {w : World} {g : Nat} {A S R : Int} (h : Clk w g A S R) : g < w.heap.size := by
  rcases Nat.lt_or_ge g w.heap.size with hlt | hge
  · exact hlt
  · unfold Clk at h; rw [Array.getElem?_eq_none hge] at h; cases h
theorem Clk.c0 {w : World} {g : Nat} {A S R : Int} (h : Clk w g A S R) : w.cell? ⟨g, 0, none⟩ = some (.int .i64 A) := cell_of_row w g 0 _ 54 (0, 0) h
theorem Clk.c1 {w : World} {g : Nat} {A S R : Int} (h : Clk w g A S R) : w.cell? ⟨g, 1, none⟩ = some (.int .i64 S) := cell_of_row w g 1 _ 54 (0, 0) h
theorem Clk.c2 {w : World} {g : Nat} {A S R : Int} (h : Clk w g A S R) : w.cell? ⟨g, 2, none⟩ = some (.int .i64 R) := cell_of_row w g 2 _ 54 (0, 0) h
theorem Clk.c3 {w : World} {g : Nat} {A S R : Int} (h : Clk w g A S R) : w.cell? ⟨g, 3, none⟩ = some (.bool true) := cell_of_row w g 3 _ 54 (0, 0) h
theorem Clk.free {w : World} {g : Nat} {A S R : Int} (h : Clk w g A S R) (i : Nat) : w.frozen? ⟨g, i, none⟩ = false := by
  unfold Clk at h
  simp [World.frozen?, h]
theorem Clk.below {w w' : World} {g : Nat} {A S R : Int} (h : Clk w g A S R) (hb : Below w.heap.size w w') : Clk w' g A S R := (hb.block g h.lt).trans h
theorem Clk.alloc {w : World} {g : Nat} {A S R : Int} (h : Clk w g A S R) (o : Obj) : Clk (w.alloc o) g A S R := (Below.heap_alloc w o g h.lt).trans h
theorem Clk.drew {w : World} {g : Nat} {A S R : Int} (h : Clk w g A S R) : Clk w.drew g A S R := h

def val (A S R t : Int) : Int := S + (t - A) + (R * (t - A)) / 1000000

theorem rate_bound {R p : Int} (h1 : -100000 ≤ R) (h2 : R ≤ 100000) (h3 : 0 ≤ p) (h4 : p ≤ 1099511627776) : -109951162777600000 ≤ R * p ∧ R * p ≤ 109951162777600000 := by
  have a : -100000 * p ≤ R * p := Int.mul_le_mul_of_nonneg_right h1 h3
  have b : R * p ≤ 100000 * p := Int.mul_le_mul_of_nonneg_right h2 h3
  omega

theorem floor_neg {p : Int} (h : p.tmod 1000000 < 0) : p.tdiv 1000000 - 1 = p / 1000000 := by
  have a := Int.mul_tdiv_add_tmod p 1000000
  have b := Int.tmod_lt_of_pos p (show (0:Int) < 1000000 by omega)
  have c : -1000000 < p.tmod 1000000 := by
    have := Int.lt_tmod_of_pos p (show (0:Int) < 1000000 by omega)
    omega
  omega
theorem floor_pos {p : Int} (h : ¬ p.tmod 1000000 < 0) : p.tdiv 1000000 = p / 1000000 := by
  have a := Int.mul_tdiv_add_tmod p 1000000
  have b := Int.tmod_lt_of_pos p (show (0:Int) < 1000000 by omega)
  omega
theorem tdiv_bd {p : Int} (h : -109951162777600000 ≤ p) (h2 : p ≤ 109951162777600000) : -109951162778 ≤ p.tdiv 1000000 ∧ p.tdiv 1000000 ≤ 109951162778 := by
  by_cases h : p.tmod 1000000 < 0
  · have := floor_neg h; omega
  · have := floor_pos h; omega

theorem raw_any (g : Nat) (A S R t : Int) (w : World) (hk : Clk w g A S R) (hA : 0 ≤ A) (hAt : A ≤ t) (ht : t ≤ 1099511627776) (hS : 0 ≤ S) (hS' : S ≤ 1099511627776) (hR : -100000 ≤ R) (hR' : R ≤ 100000) :
    Calls Try.prog 45 #[.pointer (some ⟨g, 0, none⟩), .int .i64 t] w fun e w' => e = .returned (.int .i64 (val A S R t)) ∧ w = w' := by
  have h0 := hk.c0
  have h1 := hk.c1
  have h2 := hk.c2
  have HK := Lib.hid hk
  clear hk
  have hb := rate_bound hR hR' (show 0 ≤ t - A by omega) (by omega)
  obtain ⟨hb1, hb2⟩ := hb
  obtain ⟨hq1, hq2⟩ := tdiv_bd hb1 hb2
  by_cases hm : (R * (t - A)).tmod 1000000 < 0
  · have hf := floor_neg hm
    have HF := Lib.hid hf
    clear hf
    go_enter Try.func45, Try.ntmps45
    go_wp2
    go_ret
    exact ⟨ret_int (by unfold val; rw [← HF.out]), rfl⟩
  · have hf := floor_pos hm
    have HF := Lib.hid hf
    clear hf
    go_enter Try.func45, Try.ntmps45
    go_wp2
    go_ret
    exact ⟨ret_int (by unfold val; rw [← HF.out]), rfl⟩

end Go.Proofs.Yticnklmpplicfaa
