/- The contract of Genuine. -/
import Derived.Test.YticnklmpplicfaaNO
import Derived.BigQuiet
namespace Go.Proofs.Yticnklmpplicfaa
open Go.RowKit

theorem nbelow_drewN (w : World) (n : Nat) : Below w.heap.size w (w.drewN n) := ⟨rfl, rfl, rfl, Nat.le_refl _, fun _ _ => rfl⟩

/-- What Genuine gives. -/
def Gen (W : World) (b : Bool) (k : Int) (e : Ending) (w' : World) : Prop := e = .returned (.tuple #[.bool b, .int .i64 k]) ∧ Below W.heap.size W w'

set_option maxHeartbeats 1600000 in
set_option maxRecDepth 20000 in
theorem genuine_none (g : Nat) (s : CS) (id : Int) (w : World) (h : Net w g s) (hF : s.F.length ≤ 1000000) (hi : fi s.F id = none) :
    Calls Try.prog 31 #[.pointer (some ⟨g, 0, none⟩), .int .i64 id] w (Gen w false 9) := by
  have hfd := find_any g s id w h hF
  rw [hi, show ixv none = -1 from rfl] at hfd
  clear h
  go_enter Try.func31, Try.ntmps31
  go_wp2_with fail
  refine hfd.mono ?_; rintro e w1 ⟨rfl, hb1⟩
  have HP := Lib.hid hb1
  clear hfd hb1
  go_wp2_with fail
  exact bodyPost_ret (v := .tuple #[.bool false, .int .i64 9]) (by simp [results, Try.results31, go_sem]) rfl ⟨rfl, HP.out⟩

set_option maxHeartbeats 3200000 in
set_option maxRecDepth 20000 in
theorem genuine_neg (g : Nat) (s : CS) (id : Int) (j : Nat) (f : Fl) (w : World) (h : Net w g s) (hi : fi s.F id = some j) (hf : s.F[j]? = some f) (hF : s.F.length ≤ 1000000) (hs : f.src < 0) :
    Calls Try.prog 31 #[.pointer (some ⟨g, 0, none⟩), .int .i64 id] w (Gen w false 0) := by
  have hfd := find_any g s id w h hF
  rw [hi, show ixv (some j) = (j : Int) from rfl] at hfd
  have HH := Lib.hid h
  have HF := Lib.hid hf
  have h0' : ¬ (j : Int) < 0 := by omega
  have hs' : ¬ 0 ≤ f.src := by omega
  clear h hf
  go_enter Try.func31, Try.ntmps31
  go_wp2_with fail
  refine hfd.mono ?_; rintro e w1 ⟨rfl, hb1⟩
  have hn1 := HH.out.below hb1
  have HP := Lib.hid (nbelow_alloc hb1 (.cells #[.string f.p.fr, .string f.p.to, .slice f.p.a f.p.bs.length f.p.cap, .int .i64 f.id, .int .i64 f.src] 107))
  obtain ⟨b, hbb, hb2, _, hcap, hj, hx⟩ := hn1.fly_at j f HF.out
  have x0 := (hx 0 (.string f.p.fr) rfl (by omega)).1
  have x1 := (hx 1 (.string f.p.to) rfl (by omega)).1
  have x2 := (hx 2 (.slice f.p.a f.p.bs.length f.p.cap) rfl (by omega)).1
  have x3 := (hx 3 (.int .i64 f.id) rfl (by omega)).1
  have x4 := (hx 4 (.int .i64 f.src) rfl (by omega)).1
  simp only [Nat.add_zero] at x0
  have b1 : w1.cell? ⟨g, 1, none⟩ = some s.fv := hn1.blk.cell 1
  have l1 := hn1.blk.lt
  unfold CS.fv at b1
  rw [hbb] at b1
  clear hfd hb1 hn1 hx hbb
  go_wp2_with fail
  have hd : decide (0 ≤ f.src) = false := decide_eq_false (by omega)
  go_quiet (fail)
  all_goals
    go_wp2_with fail
    exact bodyPost_ret (v := .tuple #[.bool false, .int .i64 0]) (by simp [results, Try.results31, go_sem]) rfl ⟨rfl, nbelow_trans HP.out (nbelow_drewN _ _)⟩

set_option maxHeartbeats 3200000 in
set_option maxRecDepth 20000 in
theorem genuine_pos (g : Nat) (s : CS) (id : Int) (j n : Nat) (f : Fl) (p : Pk) (w : World) (h : Net w g s) (hi : fi s.F id = some j) (hf : s.F[j]? = some f) (hF : s.F.length ≤ 1000000) (hs : f.src = n) (hp : s.H[n]? = some p) :
    Calls Try.prog 31 #[.pointer (some ⟨g, 0, none⟩), .int .i64 id] w (Gen w (sameB f.p.fr f.p.to f.p.bs p.fr p.to p.bs) 0) := by
  have hfd := find_any g s id w h hF
  rw [hi, show ixv (some j) = (j : Int) from rfl] at hfd
  have HH := Lib.hid h
  have HF := Lib.hid hf
  have HP1 := Lib.hid hp
  have h0' : ¬ (j : Int) < 0 := by omega
  clear h hf hp
  go_enter Try.func31, Try.ntmps31
  go_wp2_with fail
  refine hfd.mono ?_; rintro e w1 ⟨rfl, hb1⟩
  have hn1 := HH.out.below hb1
  have HP := Lib.hid (nbelow_alloc hb1 (.cells #[.string f.p.fr, .string f.p.to, .slice f.p.a f.p.bs.length f.p.cap, .int .i64 f.id, .int .i64 n] 107))
  obtain ⟨b, hbb, hb2, _, hcap, hj, hx⟩ := hn1.fly_at j f HF.out
  have x0 := (hx 0 (.string f.p.fr) rfl (by omega)).1
  have x1 := (hx 1 (.string f.p.to) rfl (by omega)).1
  have x2 := (hx 2 (.slice f.p.a f.p.bs.length f.p.cap) rfl (by omega)).1
  have x3 := (hx 3 (.int .i64 f.id) rfl (by omega)).1
  have x4 := (hx 4 (.int .i64 f.src) rfl (by omega)).1
  simp only [Nat.add_zero] at x0
  rw [hs] at x4
  have b1 : w1.cell? ⟨g, 1, none⟩ = some s.fv := hn1.blk.cell 1
  have b0 : w1.cell? ⟨g, 0, none⟩ = some s.hv := hn1.blk.cell 0
  have l1 := hn1.blk.lt
  unfold CS.fv at b1
  unfold CS.hv at b0
  rw [hbb] at b1
  obtain ⟨c, hcc, hc2, _, hcap2, hn, hy⟩ := hn1.hist_at n p HP1.out
  have y0 := (hy 0 (.string p.fr) rfl (by omega)).1
  have y1 := (hy 1 (.string p.to) rfl (by omega)).1
  have y2 := (hy 2 (.slice p.a p.bs.length p.cap) rfl (by omega)).1
  simp only [Nat.add_zero] at y0
  rw [hcc] at b0
  have hm : f.p ∈ s.pks := List.mem_append_right _ (List.mem_map_of_mem (List.mem_of_getElem? HF.out))
  have hm2 : p ∈ s.pks := List.mem_append_left _ (List.mem_of_getElem? HP1.out)
  have hq := equal_any f.p.fr f.p.to p.fr p.to f.p.a p.a f.p.bs p.bs f.p.cap p.cap (w1.alloc (.cells #[.string f.p.fr, .string f.p.to, .slice f.p.a f.p.bs.length f.p.cap, .int .i64 f.id, .int .i64 n] 107)).drew ((hn1.own _ hm).rd.alloc _).drew ((hn1.own _ hm2).rd.alloc _).drew
  have HQ := Lib.hid hq
  clear hfd hb1 hn1 hx hbb hy hcc hm hm2 hq
  go_wp2_with fail
  have hd : decide ((0 : Int) ≤ (n : Int)) = true := decide_eq_true (by omega)
  have hd2 : (0 : Int) ≤ (n : Int) := by omega
  go_region_law? (go_simp; go_at_call 60; refine HQ.out.mono ?_; rintro e w2 ⟨rfl, hb2'⟩)
  all_goals
    have HE := Lib.hid (nbelow_trans (nbelow_trans HP.out (nbelow_drew _)) hb2')
    clear hb2'
    go_wp2_with fail
    exact bodyPost_ret (v := .tuple #[.bool (sameB f.p.fr f.p.to f.p.bs p.fr p.to p.bs), .int .i64 0]) (by simp [results, Try.results31, go_sem]) rfl ⟨rfl, HE.out⟩

end Go.Proofs.Yticnklmpplicfaa
