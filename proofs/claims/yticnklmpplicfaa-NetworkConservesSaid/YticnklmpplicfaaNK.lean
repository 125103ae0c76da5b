/- The contracts of Inject, Replay, Duplicate. -/
import Derived.Test.YticnklmpplicfaaNJ
namespace Go.Proofs.Yticnklmpplicfaa
open Go.RowKit

/-- What a call gives that puts a packet in flight. -/
def Put (g : Nat) (W : World) (s : CS) (f t : ByteArray) (bs : List Int) (src k fr : Int) (e : Ending) (w' : World) : Prop :=
  e = .returned (.tuple #[.int .i64 s.next, .int .i64 0]) ∧ ∃ a c fa fc ea ec, Step g W s w' ((s.nexted.launched ⟨⟨f, t, a, c, bs⟩, s.next, src⟩ fa fc).noted ⟨k, s.next, fr⟩ ea ec)

set_option maxHeartbeats 1600000 in
set_option maxRecDepth 20000 in
theorem inject_invalid (g : Nat) (f t : ByteArray) (v : Value) (bs : List Int) (w : World) (hr : Rd w v bs) (hv : validB f t bs.length = false) (hf0 : f.size ≤ 9223372036854775807) (ht0 : t.size ≤ 9223372036854775807) (hn : bs.length ≤ 9223372036854775807) :
    Calls Try.prog 28 #[.pointer (some ⟨g, 0, none⟩), .agg #[.string f, .string t, v]] w (Fail2 w 0 2) := by
  obtain ⟨a, cap, rfl, -⟩ := hr.form
  have hv' := valid_any f t a bs.length cap (w.alloc (.cells #[.string f, .string t, .slice a bs.length cap] 67)) hf0 ht0 (by omega)
  rw [hv] at hv'
  clear hr
  go_enter Try.func28, Try.ntmps28
  go_wp2_with fail
  refine hv'.mono ?_; rintro e w1 ⟨rfl, hb1⟩
  have HP := Lib.hid (nbelow_box hb1)
  clear hv' hb1
  go_wp2_with fail
  exact bodyPost_ret (v := .tuple #[.int .i64 0, .int .i64 2]) (by simp [results, Try.results28, go_sem]) rfl ⟨rfl, HP.out⟩

set_option maxHeartbeats 1600000 in
set_option maxRecDepth 20000 in
theorem inject_full (g : Nat) (s : CS) (f t : ByteArray) (v : Value) (bs : List Int) (w : World) (h : Net w g s) (hr : Rd w v bs) (hv : validB f t bs.length = true) (hf0 : f.size ≤ 9223372036854775807) (ht0 : t.size ≤ 9223372036854775807) (hn : bs.length ≤ 9223372036854775807)
    (hfull : 64 ≤ s.F.length) :
    Calls Try.prog 28 #[.pointer (some ⟨g, 0, none⟩), .agg #[.string f, .string t, v]] w (Fail2 w 0 7) := by
  obtain ⟨a, cap, rfl, -⟩ := hr.form
  have HH := Lib.hid h
  have hv' := valid_any f t a bs.length cap (w.alloc (.cells #[.string f, .string t, .slice a bs.length cap] 67)) hf0 ht0 (by omega)
  rw [hv] at hv'
  clear hr h
  go_enter Try.func28, Try.ntmps28
  go_wp2_with fail
  refine hv'.mono ?_; rintro e w1 ⟨rfl, hb1⟩
  have hn1 := (HH.out.alloc (.cells #[.string f, .string t, .slice a bs.length cap] 67)).below hb1
  have hfl := full_any g s w1 hn1
  rw [show decide (64 ≤ s.F.length) = true by simpa using hfull] at hfl
  have HP := Lib.hid (nbelow_box hb1)
  clear hv' hb1 hn1
  go_wp2_with fail
  refine hfl.mono ?_; rintro e w1' ⟨rfl, rfl⟩
  clear hfl
  go_wp2_with fail
  exact bodyPost_ret (v := .tuple #[.int .i64 0, .int .i64 7]) (by simp [results, Try.results28, go_sem]) rfl ⟨rfl, HP.out⟩

set_option maxHeartbeats 1600000 in
set_option maxRecDepth 20000 in
theorem inject_ok (g : Nat) (s : CS) (f t : ByteArray) (v : Value) (bs : List Int) (w : World) (h : Net w g s) (hr : Rd w v bs) (hv : validB f t bs.length = true) (hf0 : f.size ≤ 9223372036854775807) (ht0 : t.size ≤ 9223372036854775807) (hn : bs.length ≤ 65536)
    (hF : s.F.length < 64) (hE : s.E.length ≤ 100000) (hx0 : 0 ≤ s.next) (hx1 : s.next ≤ 1000000) :
    Calls Try.prog 28 #[.pointer (some ⟨g, 0, none⟩), .agg #[.string f, .string t, v]] w (Put g w s f t bs (-1) 8 (-1)) := by
  obtain ⟨a, cap, rfl, -⟩ := hr.form
  have HH := Lib.hid h
  have HR := Lib.hid hr
  have hv' := valid_any f t a bs.length cap (w.alloc (.cells #[.string f, .string t, .slice a bs.length cap] 67)) hf0 ht0 (by omega)
  rw [hv] at hv'
  clear hr h
  go_enter Try.func28, Try.ntmps28
  go_wp2_with fail
  refine hv'.mono ?_; rintro e w1 ⟨rfl, hb1⟩
  have hn1 := (HH.out.alloc (.cells #[.string f, .string t, .slice a bs.length cap] 67)).below hb1
  have hbox : Blk w1 w.heap.size 67 #[.string f, .string t, .slice a bs.length cap] := (Blk.new _ _ _).below hb1 (by simp)
  have hr1 := (HR.out.alloc (.cells #[.string f, .string t, .slice a bs.length cap] 67)).below hb1
  have hfl := full_any g s w1 hn1
  rw [show decide (64 ≤ s.F.length) = false by simp; omega] at hfl
  have x0 : w1.cell? ⟨w.heap.size, 0, none⟩ = some (.string f) := hbox.cell 0
  have x1 : w1.cell? ⟨w.heap.size, 1, none⟩ = some (.string t) := hbox.cell 1
  have x2 : w1.cell? ⟨w.heap.size, 2, none⟩ = some (.slice a bs.length cap) := hbox.cell 2
  have HP := Lib.hid (nbelow_box hb1)
  have HL := Lib.hid (launch_any g s f t _ bs (-1) _ hn1 hr1 hn (by omega) hx0 (by omega))
  clear hv' hb1 hn1 hbox hr1
  go_wp2_with fail
  refine hfl.mono ?_; rintro e w1' ⟨rfl, rfl⟩
  clear hfl
  go_wp2_with fail
  refine HL.out.mono ?_; rintro e w5 ⟨rfl, a2, c2, fa, fc, hS5⟩
  have hE5 : (s.nexted.launched ⟨⟨f, t, a2, c2, bs⟩, s.next, -1⟩ fa fc).E.length ≤ 1000000 := by simp [CS.nexted, CS.launched]; omega
  have hno := Lib.hid (note_any g _ 8 s.next (-1) w5 hS5.net hE5)
  have HS5 := Lib.hid (hS5.pre HP.out)
  clear hS5 hE5
  go_wp2_with fail
  refine hno.out.mono ?_; rintro e w6 ⟨rfl, ea, ec, hS6⟩
  go_wp2_with fail
  exact bodyPost_ret (v := .tuple #[.int .i64 s.next, .int .i64 0]) (by simp [results, Try.results28, go_sem]) rfl ⟨rfl, _, _, _, _, _, _, HS5.out.trans hS6⟩

set_option maxHeartbeats 1600000 in
set_option maxRecDepth 20000 in
theorem replay_none (g : Nat) (s : CS) (i : Int) (w : World) (h : Net w g s) (hi : i < 0 ∨ (s.H.length : Int) ≤ i) :
    Calls Try.prog 29 #[.pointer (some ⟨g, 0, none⟩), .int .i64 i] w (Fail2 w 0 9) := by
  have b0 : w.cell? ⟨g, 0, none⟩ = some s.hv := h.blk.cell 0
  have l1 := h.blk.lt
  unfold CS.hv at b0
  clear h
  rcases Int.lt_or_le i 0 with h0 | h0
  · go_enter Try.func29, Try.ntmps29
    go_wp2_with fail
    exact bodyPost_ret (v := .tuple #[.int .i64 0, .int .i64 9]) (by simp [results, Try.results29, go_sem]) rfl ⟨rfl, Below.refl _ _⟩
  · have h2 : (s.H.length : Int) ≤ i := by omega
    have h0' : ¬ i < 0 := by omega
    go_enter Try.func29, Try.ntmps29
    go_wp2_with fail
    exact bodyPost_ret (v := .tuple #[.int .i64 0, .int .i64 9]) (by simp [results, Try.results29, go_sem]) rfl ⟨rfl, Below.refl _ _⟩

set_option maxHeartbeats 1600000 in
set_option maxRecDepth 20000 in
theorem replay_full (g : Nat) (s : CS) (i : Nat) (w : World) (h : Net w g s) (hi : i < s.H.length) (hfull : 64 ≤ s.F.length) :
    Calls Try.prog 29 #[.pointer (some ⟨g, 0, none⟩), .int .i64 i] w (Fail2 w 0 7) := by
  have b0 : w.cell? ⟨g, 0, none⟩ = some s.hv := h.blk.cell 0
  have l1 := h.blk.lt
  unfold CS.hv at b0
  have hfl := full_any g s w h
  rw [show decide (64 ≤ s.F.length) = true by simpa using hfull] at hfl
  have h0' : ¬ (i : Int) < 0 := by omega
  have h1' : ¬ (s.H.length : Int) ≤ (i : Int) := by omega
  clear h
  go_enter Try.func29, Try.ntmps29
  go_wp2_with fail
  refine hfl.mono ?_; rintro e w1' ⟨rfl, rfl⟩
  clear hfl
  go_wp2_with fail
  exact bodyPost_ret (v := .tuple #[.int .i64 0, .int .i64 7]) (by simp [results, Try.results29, go_sem]) rfl ⟨rfl, Below.refl _ _⟩

set_option maxHeartbeats 1600000 in
set_option maxRecDepth 20000 in
theorem replay_ok (g : Nat) (s : CS) (i : Nat) (p : Pk) (w : World) (h : Net w g s) (hp : s.H[i]? = some p)
    (hF : s.F.length < 64) (hE : s.E.length ≤ 100000) (hx0 : 0 ≤ s.next) (hx1 : s.next ≤ 1000000) :
    Calls Try.prog 29 #[.pointer (some ⟨g, 0, none⟩), .int .i64 i] w (Put g w s p.fr p.to p.bs i 7 i) := by
  obtain ⟨b, hb1, hb2, _, hcap, hi, hx⟩ := h.hist_at i p hp
  have x0 := (hx 0 (.string p.fr) rfl (by omega)).1
  have x1 := (hx 1 (.string p.to) rfl (by omega)).1
  have x2 := (hx 2 (.slice p.a p.bs.length p.cap) rfl (by omega)).1
  simp only [Nat.add_zero] at x0
  have b0 : w.cell? ⟨g, 0, none⟩ = some s.hv := h.blk.cell 0
  have l1 := h.blk.lt
  unfold CS.hv at b0
  rw [hb1] at b0
  have hm : p ∈ s.pks := List.mem_append_left _ (List.mem_of_getElem? hp)
  have hfl := full_any g s w h
  rw [show decide (64 ≤ s.F.length) = false by simp; omega] at hfl
  have h0' : ¬ (i : Int) < 0 := by omega
  have h1' : ¬ (s.H.length : Int) ≤ (i : Int) := by omega
  have HL := Lib.hid (launch_any g s p.fr p.to _ p.bs i _ h (h.own p hm).rd (h.len p hm) (by omega) hx0 (by omega))
  unfold Pk.v at HL
  clear h hx hp hm hb1
  go_enter Try.func29, Try.ntmps29
  go_wp2_with fail
  refine hfl.mono ?_; rintro e w1' ⟨rfl, rfl⟩
  clear hfl
  go_wp2_with fail
  refine HL.out.mono ?_; rintro e w5 ⟨rfl, a2, c2, fa, fc, hS5⟩
  have hE5 : (s.nexted.launched ⟨⟨p.fr, p.to, a2, c2, p.bs⟩, s.next, i⟩ fa fc).E.length ≤ 1000000 := by simp [CS.nexted, CS.launched]; omega
  have hno := Lib.hid (note_any g _ 7 s.next i w5 hS5.net hE5)
  have HS5 := Lib.hid hS5
  clear hS5 hE5
  go_wp2_with fail
  refine hno.out.mono ?_; rintro e w6 ⟨rfl, ea, ec, hS6⟩
  go_wp2_with fail
  exact bodyPost_ret (v := .tuple #[.int .i64 s.next, .int .i64 0]) (by simp [results, Try.results29, go_sem]) rfl ⟨rfl, _, _, _, _, _, _, HS5.out.trans hS6⟩

end Go.Proofs.Yticnklmpplicfaa
