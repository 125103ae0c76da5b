/- The contracts of Duplicate, Drop, Source. -/
import Derived.Test.YticnklmpplicfaaNK
namespace Go.Proofs.Yticnklmpplicfaa
open Go.RowKit

/-- An error of a call that gives no more. -/
def Fail1 (W : World) (k : Int) (e : Ending) (w' : World) : Prop := e = .returned (.int .i64 k) ∧ Below W.heap.size W w'

set_option maxHeartbeats 1600000 in
set_option maxRecDepth 20000 in
theorem dup_none (g : Nat) (s : CS) (id : Int) (w : World) (h : Net w g s) (hF : s.F.length ≤ 1000000) (hi : fi s.F id = none) :
    Calls Try.prog 30 #[.pointer (some ⟨g, 0, none⟩), .int .i64 id] w (Fail2 w 0 9) := by
  have hfd := find_any g s id w h hF
  rw [hi, show ixv none = -1 from rfl] at hfd
  clear h
  go_enter Try.func30, Try.ntmps30
  go_wp2_with fail
  refine hfd.mono ?_; rintro e w1 ⟨rfl, hb1⟩
  have HP := Lib.hid hb1
  clear hfd hb1
  go_wp2_with fail
  exact bodyPost_ret (v := .tuple #[.int .i64 0, .int .i64 9]) (by simp [results, Try.results30, go_sem]) rfl ⟨rfl, HP.out⟩

set_option maxHeartbeats 1600000 in
set_option maxRecDepth 20000 in
theorem dup_full (g : Nat) (s : CS) (id : Int) (j : Nat) (w : World) (h : Net w g s) (hF : s.F.length ≤ 1000000) (hi : fi s.F id = some j) (hfull : 64 ≤ s.F.length) :
    Calls Try.prog 30 #[.pointer (some ⟨g, 0, none⟩), .int .i64 id] w (Fail2 w 0 7) := by
  have hfd := find_any g s id w h hF
  rw [hi, show ixv (some j) = (j : Int) from rfl] at hfd
  have HH := Lib.hid h
  have h0' : ¬ (j : Int) < 0 := by omega
  clear h
  go_enter Try.func30, Try.ntmps30
  go_wp2_with fail
  refine hfd.mono ?_; rintro e w1 ⟨rfl, hb1⟩
  have HP := Lib.hid hb1
  have hfl := full_any g s w1 (HH.out.below hb1)
  rw [show decide (64 ≤ s.F.length) = true by simpa using hfull] at hfl
  clear hfd hb1
  go_wp2_with fail
  refine hfl.mono ?_; rintro e w1' ⟨rfl, rfl⟩
  clear hfl
  go_wp2_with fail
  exact bodyPost_ret (v := .tuple #[.int .i64 0, .int .i64 7]) (by simp [results, Try.results30, go_sem]) rfl ⟨rfl, HP.out⟩

set_option maxHeartbeats 3200000 in
set_option maxRecDepth 20000 in
theorem dup_ok (g : Nat) (s : CS) (id : Int) (j : Nat) (f : Fl) (w : World) (h : Net w g s) (hi : fi s.F id = some j) (hf : s.F[j]? = some f)
    (hF : s.F.length < 64) (hE : s.E.length ≤ 100000) (hx0 : 0 ≤ s.next) (hx1 : s.next ≤ 1000000) :
    Calls Try.prog 30 #[.pointer (some ⟨g, 0, none⟩), .int .i64 id] w (Put g w s f.p.fr f.p.to f.p.bs f.src 4 id) := by
  have hfd := find_any g s id w h (by omega)
  rw [hi, show ixv (some j) = (j : Int) from rfl] at hfd
  have HH := Lib.hid h
  have HF := Lib.hid hf
  have h0' : ¬ (j : Int) < 0 := by omega
  clear h hf
  go_enter Try.func30, Try.ntmps30
  go_wp2_with fail
  refine hfd.mono ?_; rintro e w1 ⟨rfl, hb1⟩
  have HP := Lib.hid hb1
  have hn1 := HH.out.below hb1
  have hfl := full_any g s w1 hn1
  rw [show decide (64 ≤ s.F.length) = false by simp; omega] at hfl
  obtain ⟨b, hbb, hb2, _, hcap, hj, hx⟩ := hn1.fly_at j f HF.out
  have x0 := (hx 0 (.string f.p.fr) rfl (by omega)).1
  have x1 := (hx 1 (.string f.p.to) rfl (by omega)).1
  have x2 := (hx 2 (.slice f.p.a f.p.bs.length f.p.cap) rfl (by omega)).1
  have x3 := (hx 3 (.int .i64 f.id) rfl (by omega)).1
  have x4 := (hx 4 (.int .i64 f.src) rfl (by omega)).1
  simp only [Nat.add_zero] at x0
  have b1 : w1.cell? ⟨g, 1, none⟩ = some s.fv := hn1.blk.cell 1
  have l1 := hn1.blk.lt
  unfold CS.fv at b1
  rw [hbb] at b1
  have hm : f.p ∈ s.pks := List.mem_append_right _ (List.mem_map_of_mem (List.mem_of_getElem? HF.out))
  have HL := Lib.hid (launch_any g s f.p.fr f.p.to _ f.p.bs f.src _ hn1.drew (hn1.drew.own _ hm).rd (hn1.len _ hm) (by omega) hx0 (by omega))
  unfold Pk.v at HL
  clear hfd hb1 hn1 hx hm hbb
  go_wp2_with fail
  refine hfl.mono ?_; rintro e w1' ⟨rfl, rfl⟩
  clear hfl
  go_wp2_with fail
  go_region_law? (go_simp; go_at_call 56; refine HL.out.mono ?_; rintro e w5 ⟨rfl, a2, c2, fa, fc, hS5⟩)
  all_goals
    have hE5 : (s.nexted.launched ⟨⟨f.p.fr, f.p.to, a2, c2, f.p.bs⟩, s.next, f.src⟩ fa fc).E.length ≤ 1000000 := by simp [CS.nexted, CS.launched]; omega
    have hno := Lib.hid (note_any g _ 4 s.next id w5 hS5.net hE5)
    have HS5 := Lib.hid ((hS5.pre (nbelow_drew _)).pre HP.out)
    clear hS5 hE5
    go_wp2_with fail
    refine hno.out.mono ?_; rintro e w6 ⟨rfl, ea, ec, hS6⟩
    go_wp2_with fail
    exact bodyPost_ret (v := .tuple #[.int .i64 s.next, .int .i64 0]) (by simp [results, Try.results30, go_sem]) rfl ⟨rfl, _, _, _, _, _, _, HS5.out.trans hS6⟩

set_option maxHeartbeats 1600000 in
set_option maxRecDepth 20000 in
theorem drop_none (g : Nat) (s : CS) (id : Int) (w : World) (h : Net w g s) (hF : s.F.length ≤ 1000000) (hi : fi s.F id = none) :
    Calls Try.prog 33 #[.pointer (some ⟨g, 0, none⟩), .int .i64 id] w (Fail1 w 9) := by
  have hfd := find_any g s id w h hF
  rw [hi, show ixv none = -1 from rfl] at hfd
  clear h
  go_enter Try.func33, Try.ntmps33
  go_wp2_with fail
  refine hfd.mono ?_; rintro e w1 ⟨rfl, hb1⟩
  have HP := Lib.hid hb1
  clear hfd hb1
  go_wp2_with fail
  exact bodyPost_ret (v := .int .i64 9) (by simp [results, Try.results33, go_sem]) rfl ⟨rfl, HP.out⟩

set_option maxHeartbeats 1600000 in
set_option maxRecDepth 20000 in
theorem drop_ok (g : Nat) (s : CS) (id : Int) (j : Nat) (f : Fl) (w : World) (h : Net w g s) (hi : fi s.F id = some j) (hf : s.F[j]? = some f) (hF : s.F.length ≤ 1000000) (hE : s.E.length ≤ 100000) :
    Calls Try.prog 33 #[.pointer (some ⟨g, 0, none⟩), .int .i64 id] w fun e w' => e = .returned (.int .i64 0) ∧ ∃ ea ec, Step g w s w' ((s.taken j).noted ⟨3, id, -1⟩ ea ec) := by
  have hfd := find_any g s id w h hF
  rw [hi, show ixv (some j) = (j : Int) from rfl] at hfd
  have HH := Lib.hid h
  have HF := Lib.hid hf
  have h0' : ¬ (j : Int) < 0 := by omega
  clear h hf
  go_enter Try.func33, Try.ntmps33
  go_wp2_with fail
  refine hfd.mono ?_; rintro e w1 ⟨rfl, hb1⟩
  have HP := Lib.hid hb1
  have hn1 := Lib.hid (HH.out.below hb1)
  clear hfd hb1
  go_wp2_with fail
  refine (take_any g s j f w1 hn1.out HF.out hF).mono ?_; rintro e w2 ⟨rfl, hS, -⟩
  have hno := Lib.hid (note_any g (s.taken j) 3 id (-1) w2 hS.net (by simp [CS.taken]; omega))
  have HS := Lib.hid (hS.pre HP.out)
  clear hS
  go_wp2_with fail
  refine hno.out.mono ?_; rintro e w6 ⟨rfl, ea, ec, hS6⟩
  go_wp2_with fail
  exact bodyPost_ret (v := .int .i64 0) (by simp [results, Try.results33, go_sem]) rfl ⟨rfl, _, _, HS.out.trans hS6⟩

set_option maxHeartbeats 1600000 in
set_option maxRecDepth 20000 in
theorem source_ok (g : Nat) (s : CS) (id : Int) (j : Nat) (f : Fl) (w : World) (h : Net w g s) (hi : fi s.F id = some j) (hf : s.F[j]? = some f) (hF : s.F.length ≤ 1000000) :
    Calls Try.prog 51 #[.pointer (some ⟨g, 0, none⟩), .int .i64 id] w (Fail2 w f.src 0) := by
  have hfd := find_any g s id w h hF
  rw [hi, show ixv (some j) = (j : Int) from rfl] at hfd
  have HH := Lib.hid h
  have HF := Lib.hid hf
  have h0' : ¬ (j : Int) < 0 := by omega
  clear h hf
  go_enter Try.func51, Try.ntmps51
  go_wp2_with fail
  refine hfd.mono ?_; rintro e w1 ⟨rfl, hb1⟩
  have HP := Lib.hid hb1
  have hn1 := HH.out.below hb1
  obtain ⟨b, hbb, hb2, _, hcap, hj, hx⟩ := hn1.fly_at j f HF.out
  have x4 := (hx 4 (.int .i64 f.src) rfl (by omega)).1
  have b1 : w1.cell? ⟨g, 1, none⟩ = some s.fv := hn1.blk.cell 1
  have l1 := hn1.blk.lt
  unfold CS.fv at b1
  rw [hbb] at b1
  clear hfd hb1 hn1 hx hbb
  go_wp2_with fail
  exact bodyPost_ret (v := .tuple #[.int .i64 f.src, .int .i64 0]) (by simp [results, Try.results51, go_sem]) rfl ⟨rfl, HP.out⟩

end Go.Proofs.Yticnklmpplicfaa
