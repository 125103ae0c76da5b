/- The contracts of Alter and Redirect: the walks. -/
import Derived.Test.YticnklmpplicfaaNM
namespace Go.Proofs.Yticnklmpplicfaa
open Go.RowKit

set_option maxHeartbeats 1600000 in
theorem alter_zero (g : Nat) (id off : Int) (w : World) :
    Calls Try.prog 34 #[.pointer (some ⟨g, 0, none⟩), .int .i64 id, .int .i64 off, .int .u8 0] w (Fail1 w 2) := by
  go_enter Try.func34, Try.ntmps34
  go_wp2_with fail
  exact bodyPost_ret (v := .int .i64 2) (by simp [results, Try.results34, go_sem]) rfl ⟨rfl, Below.refl _ _⟩

set_option maxHeartbeats 1600000 in
set_option maxRecDepth 20000 in
theorem alter_none (g : Nat) (s : CS) (id off m : Int) (w : World) (h : Net w g s) (hF : s.F.length ≤ 1000000) (hm : m ≠ 0) (hi : fi s.F id = none) :
    Calls Try.prog 34 #[.pointer (some ⟨g, 0, none⟩), .int .i64 id, .int .i64 off, .int .u8 m] w (Fail1 w 9) := by
  have hfd := find_any g s id w h hF
  rw [hi, show ixv none = -1 from rfl] at hfd
  have hmb : (m == 0) = false := by simpa using hm
  clear h
  go_enter Try.func34, Try.ntmps34
  go_wp2_with fail
  refine hfd.mono ?_; rintro e w1 ⟨rfl, hb1⟩
  have HP := Lib.hid hb1
  clear hfd hb1
  go_wp2_with fail
  exact bodyPost_ret (v := .int .i64 9) (by simp [results, Try.results34, go_sem]) rfl ⟨rfl, HP.out⟩

set_option maxHeartbeats 1600000 in
set_option maxRecDepth 20000 in
theorem alter_range (g : Nat) (s : CS) (id off m : Int) (j : Nat) (f : Fl) (w : World) (h : Net w g s) (hF : s.F.length ≤ 1000000) (hm : m ≠ 0) (hi : fi s.F id = some j) (hf : s.F[j]? = some f) (ho : off < 0 ∨ (f.p.bs.length : Int) ≤ off) :
    Calls Try.prog 34 #[.pointer (some ⟨g, 0, none⟩), .int .i64 id, .int .i64 off, .int .u8 m] w (Fail1 w 3) := by
  have hfd := find_any g s id w h hF
  rw [hi, show ixv (some j) = (j : Int) from rfl] at hfd
  have hmb : (m == 0) = false := by simpa using hm
  have HH := Lib.hid h
  have HF := Lib.hid hf
  have h0' : ¬ (j : Int) < 0 := by omega
  clear h hf
  go_enter Try.func34, Try.ntmps34
  go_wp2_with fail
  refine hfd.mono ?_; rintro e w1 ⟨rfl, hb1⟩
  have HP := Lib.hid hb1
  have hn1 := HH.out.below hb1
  obtain ⟨b, hbb, hb2, _, hcap, hj, hx⟩ := hn1.fly_at j f HF.out
  have x2 := (hx 2 (.slice f.p.a f.p.bs.length f.p.cap) rfl (by omega)).1
  have b1 : w1.cell? ⟨g, 1, none⟩ = some s.fv := hn1.blk.cell 1
  have l1 := hn1.blk.lt
  unfold CS.fv at b1
  rw [hbb] at b1
  clear hfd hb1 hn1 hx hbb
  rcases Int.lt_or_le off 0 with h0 | h0
  · go_wp2_with fail
    exact bodyPost_ret (v := .int .i64 3) (by simp [results, Try.results34, go_sem]) rfl ⟨rfl, HP.out⟩
  · have h2 : (f.p.bs.length : Int) ≤ off := by omega
    have h0'' : ¬ off < 0 := by omega
    go_wp2_with fail
    exact bodyPost_ret (v := .int .i64 3) (by simp [results, Try.results34, go_sem]) rfl ⟨rfl, HP.out⟩

set_option maxHeartbeats 1600000 in
set_option maxRecDepth 20000 in
theorem alter_ok (g : Nat) (s : CS) (id m : Int) (j off : Nat) (f : Fl) (w : World) (h : Net w g s) (hF : s.F.length ≤ 1000000) (hE : s.E.length ≤ 100000) (hm : m ≠ 0) (hi : fi s.F id = some j) (hf : s.F[j]? = some f) (ho : off < f.p.bs.length) :
    Calls Try.prog 34 #[.pointer (some ⟨g, 0, none⟩), .int .i64 id, .int .i64 off, .int .u8 m] w fun e w' => e = .returned (.int .i64 0) ∧ ∃ ea ec, Step g w s w' ((s.fset j (f.alter off (bits BinOp.xor IntKind.u8 f.p.bs[off] m))).noted ⟨5, id, -1⟩ ea ec) := by
  have hfd := find_any g s id w h hF
  rw [hi, show ixv (some j) = (j : Int) from rfl] at hfd
  have hmb : (m == 0) = false := by simpa using hm
  have HH := Lib.hid h
  have HF := Lib.hid hf
  have h0' : ¬ (j : Int) < 0 := by omega
  have h1' : ¬ (off : Int) < 0 := by omega
  have h2' : ¬ (f.p.bs.length : Int) ≤ (off : Int) := by omega
  clear h hf
  go_enter Try.func34, Try.ntmps34
  go_wp2_with fail
  refine hfd.mono ?_; rintro e w1 ⟨rfl, hb1⟩
  have HP := Lib.hid hb1
  have hn1 := HH.out.below hb1
  have HN := Lib.hid hn1
  obtain ⟨b, hbb, hb2, _, hcap, hj, hx⟩ := hn1.fly_at j f HF.out
  have x2 := (hx 2 (.slice f.p.a f.p.bs.length f.p.cap) rfl (by omega)).1
  have b1 : w1.cell? ⟨g, 1, none⟩ = some s.fv := hn1.blk.cell 1
  have l1 := hn1.blk.lt
  unfold CS.fv at b1
  rw [hbb] at b1
  have hmem : f.p ∈ s.pks := List.mem_append_right _ (List.mem_map_of_mem (List.mem_of_getElem? HF.out))
  have hpo := hn1.own _ hmem
  unfold OwnB Pk.v at hpo
  obtain ⟨k, hka, hk1, _, hk2, hkc⟩ := own_at hpo (by omega)
  rw [hka] at x2
  have y0 := hkc off (.int .u8 f.p.bs[off]) (by simp [u8s, ho])
  have y1 := y0.1
  have y2 := y0.2
  clear hfd hb1 hn1 hx hbb hkc hpo y0 hmem
  go_wp2_with fail
  have hS := HN.out.altered (i := off) HF.out hka (bits BinOp.xor IntKind.u8 f.p.bs[off] m)
  have hno := Lib.hid (note_any g _ 5 id (-1) _ hS.net (by simp [CS.fset]; omega))
  have HS := Lib.hid (hS.pre HP.out)
  clear hS
  refine hno.out.mono ?_; rintro e w6 ⟨rfl, ea, ec, hS6⟩
  go_wp2_with fail
  exact bodyPost_ret (v := .int .i64 0) (by simp [results, Try.results34, go_sem]) rfl ⟨rfl, _, _, HS.out.trans hS6⟩

set_option maxHeartbeats 1600000 in
theorem redirect_arg (g : Nat) (id : Int) (t : ByteArray) (w : World) (ht0 : t.size ≤ 9223372036854775807) (ht : hostB t = false) :
    Calls Try.prog 35 #[.pointer (some ⟨g, 0, none⟩), .int .i64 id, .string t] w (Fail1 w 2) := by
  have hh := validHost_any t w ht0
  rw [ht] at hh
  go_enter Try.func35, Try.ntmps35
  go_wp2_with fail
  refine hh.mono ?_; rintro e w1 ⟨rfl, rfl⟩
  clear hh
  go_wp2_with fail
  exact bodyPost_ret (v := .int .i64 2) (by simp [results, Try.results35, go_sem]) rfl ⟨rfl, Below.refl _ _⟩

set_option maxHeartbeats 1600000 in
set_option maxRecDepth 20000 in
theorem redirect_none (g : Nat) (s : CS) (id : Int) (t : ByteArray) (w : World) (h : Net w g s) (hF : s.F.length ≤ 1000000) (ht0 : t.size ≤ 9223372036854775807) (ht : hostB t = true) (hi : fi s.F id = none) :
    Calls Try.prog 35 #[.pointer (some ⟨g, 0, none⟩), .int .i64 id, .string t] w (Fail1 w 9) := by
  have hh := validHost_any t w ht0
  rw [ht] at hh
  have hfd := find_any g s id w h hF
  rw [hi, show ixv none = -1 from rfl] at hfd
  clear h
  go_enter Try.func35, Try.ntmps35
  go_wp2_with fail
  refine hh.mono ?_; rintro e w1 ⟨rfl, rfl⟩
  clear hh
  go_wp2_with fail
  refine hfd.mono ?_; rintro e w1 ⟨rfl, hb1⟩
  have HP := Lib.hid hb1
  clear hfd hb1
  go_wp2_with fail
  exact bodyPost_ret (v := .int .i64 9) (by simp [results, Try.results35, go_sem]) rfl ⟨rfl, HP.out⟩

set_option maxHeartbeats 1600000 in
set_option maxRecDepth 20000 in
theorem redirect_ok (g : Nat) (s : CS) (id : Int) (t : ByteArray) (j : Nat) (f : Fl) (w : World) (h : Net w g s) (hF : s.F.length ≤ 1000000) (hE : s.E.length ≤ 100000) (ht0 : t.size ≤ 9223372036854775807) (ht : hostB t = true) (hi : fi s.F id = some j) (hf : s.F[j]? = some f) :
    Calls Try.prog 35 #[.pointer (some ⟨g, 0, none⟩), .int .i64 id, .string t] w fun e w' => e = .returned (.int .i64 0) ∧ ∃ ea ec, Step g w s w' ((s.fset j (f.redirect t)).noted ⟨6, id, -1⟩ ea ec) := by
  have hh := validHost_any t w ht0
  rw [ht] at hh
  have hfd := find_any g s id w h hF
  rw [hi, show ixv (some j) = (j : Int) from rfl] at hfd
  have HH := Lib.hid h
  have HF := Lib.hid hf
  have h0' : ¬ (j : Int) < 0 := by omega
  clear h hf
  go_enter Try.func35, Try.ntmps35
  go_wp2_with fail
  refine hh.mono ?_; rintro e w1 ⟨rfl, rfl⟩
  clear hh
  go_wp2_with fail
  refine hfd.mono ?_; rintro e w1 ⟨rfl, hb1⟩
  have HP := Lib.hid hb1
  have hn1 := HH.out.below hb1
  have HN := Lib.hid hn1
  obtain ⟨b, hbb, hb2, _, hcap, hj, hx⟩ := hn1.fly_at j f HF.out
  have x1 := (hx 1 (.string f.p.to) rfl (by omega)).1
  have z1 := (hx 1 (.string f.p.to) rfl (by omega)).2
  have b1 : w1.cell? ⟨g, 1, none⟩ = some s.fv := hn1.blk.cell 1
  have l1 := hn1.blk.lt
  unfold CS.fv at b1
  have HB := Lib.hid hbb
  rw [hbb] at b1
  clear hfd hb1 hn1 hx hbb
  go_wp2_with fail
  have hS := HN.out.redirected HF.out HB.out t
  have hno := Lib.hid (note_any g _ 6 id (-1) _ hS.net (by simp [CS.fset]; omega))
  have HS := Lib.hid (hS.pre HP.out)
  clear hS
  refine hno.out.mono ?_; rintro e w6 ⟨rfl, ea, ec, hS6⟩
  go_wp2_with fail
  exact bodyPost_ret (v := .int .i64 0) (by simp [results, Try.results35, go_sem]) rfl ⟨rfl, _, _, HS.out.trans hS6⟩

end Go.Proofs.Yticnklmpplicfaa
