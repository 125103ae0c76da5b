/- The contract of Send, once more: of bytes that are none, nothing is asked about their place. -/
import Derived.Test.YticnklmpplicfaaNI
namespace Go.Proofs.Yticnklmpplicfaa
open Go.RowKit

theorem Rd.kept0 {S : Nat → Prop} {w w' : World} {v : Value} {bs : List Int} (h : Rd w v bs) (hk : Kept S w w') (hn : 0 < bs.length → ∀ k, v.ownBlock = some k → ¬ S k) : Rd w' v bs := by
  rcases Nat.eq_zero_or_pos bs.length with h0 | h0
  · exact ⟨h.form, fun h1 => by omega⟩
  · exact h.kept hk (hn h0)

set_option maxHeartbeats 6400000 in
set_option maxRecDepth 20000 in
theorem send_ok0 (g : Nat) (s : CS) (f t : ByteArray) (v : Value) (bs : List Int) (w : World) (h : Net w g s) (hr : Rd w v bs) (hvo : 0 < bs.length → ∀ k, v.ownBlock = some k → ¬ Own g s k) (hv : validB f t bs.length = true) (hf0 : f.size ≤ 9223372036854775807) (ht0 : t.size ≤ 9223372036854775807) (hn : bs.length ≤ 65536)
    (hF : s.F.length < 64) (hH : s.H.length < 1024) (hE : s.E.length ≤ 100000) (hx0 : 0 ≤ s.next) (hx1 : s.next ≤ 1000000) :
    Calls Try.prog 25 #[.pointer (some ⟨g, 0, none⟩), .agg #[.string f, .string t, v]] w (Sent g w s f t bs) := by
  obtain ⟨i0, hi0, hz0, hz1, hz2⟩ := info_parts Try.info67
  obtain ⟨a, cap, rfl, -⟩ := hr.form
  have HH := Lib.hid h
  have HR := Lib.hid hr
  have hv' := valid_any f t a bs.length cap (w.alloc (.cells #[.string f, .string t, .slice a bs.length cap] 67)) hf0 ht0 (by omega)
  rw [hv] at hv'
  have lg := h.blk.lt
  clear h hr
  go_enter Try.func25, Try.ntmps25
  go_wp2_with fail
  go_step3
  go_wp2_with fail
  refine hv'.mono ?_; rintro e w1 ⟨rfl, hb1⟩
  have hn1 := (HH.out.alloc (.cells #[.string f, .string t, .slice a bs.length cap] 67)).below hb1
  have hbox : Blk w1 w.heap.size 67 #[.string f, .string t, .slice a bs.length cap] := (Blk.new _ _ _).below hb1 (by simp)
  have hr1 := (HR.out.alloc (.cells #[.string f, .string t, .slice a bs.length cap] 67)).below hb1
  have hfl := full_any g s w1 hn1
  rw [show decide (64 ≤ s.F.length) = false by simp; omega] at hfl
  have b0 : w1.cell? ⟨g, 0, none⟩ = some s.hv := hn1.blk.cell 0
  have l1 := hn1.blk.lt
  have x0 : w1.cell? ⟨w.heap.size, 0, none⟩ = some (.string f) := hbox.cell 0
  have x1 : w1.cell? ⟨w.heap.size, 1, none⟩ = some (.string t) := hbox.cell 1
  have x2 : w1.cell? ⟨w.heap.size, 2, none⟩ = some (.slice a bs.length cap) := hbox.cell 2
  have l2 := hbox.lt
  unfold CS.hv at b0
  have HN := Lib.hid hn1
  have HX := Lib.hid hbox
  have HR1 := Lib.hid hr1
  have hp : Below w.heap.size w w1 := nbelow_box hb1
  have HP := Lib.hid hp
  clear hn1 hbox hr1 hb1 hp hv'
  go_wp2_with fail
  refine hfl.mono ?_; rintro e w1' ⟨rfl, rfl⟩
  clear hfl
  go_wp2_with fail
  have h03 : 0 < 3 := by omega
  have h01 : 0 < 1 := by omega
  have h63 : s.H.length + 1 ≤ maxLen := by unfold maxLen; omega
  have hby : (s.H.length + 1) * 56 ≤ 140737488355328 := by omega
  go_region_law (first
    | (go_simp; go_at_call 55; refine (clone_any _ _ _ _ _ (HR1.out.drew) hn).mono ?_; rintro e w2 ⟨a1, c1, rfl, ho, hb, hf⟩; have hnn := HN.out.drew.below hb; have y1 : w2.cell? ⟨g, 0, none⟩ = some (.slice s.ha s.H.length s.hc) := hnn.blk.cell 0; have ly := hnn.blk.lt)
    | (refine step_append_lies _ rfl _ _ _ rfl 0 67 i0 _ 3 56 Try.underlying58 hi0 hz0 hz1 hz2 rfl h03 s.hv s.H.length (pkCells s.H) rfl ((HN.out.drew.below hb).hist.alloc _) ⟨w2.heap.size, 0, none⟩ 1 1 (Pk.cells ⟨f, t, a1, c1, bs⟩) rfl rfl (World.news_of_block (cs := #[.string f, .string t, .slice a1 bs.length c1]) (t := 67) (fr := (0, 0)) (heap_alloc_new w2 _)) (pk_one _) h01 h63 hby (Nat.zero_le _) _ rfl ?_; intro gg cap1 w3 hown3 hg3 hat hlt; have hx := store_aux HN.out hb hg3; have d1 := hx.2.cell 0; have f1 := hx.2.frozen 0; have l3 := hx.2.lt; simp at d1))
  all_goals
    have hE := store_end HN.out hb ho hf hn hg3 hown3 hat
    have hX4 := HX.out.kept hE.kept (fun e => by have := Own.lt HH.out e; omega)
    have hR4 := HR1.out.kept0 hE.kept hvo
    clear hown3 hg3 hat hx ho hf
    generalize hW4 : w3.setCell ⟨g, 0, none⟩ (.slice (some ⟨gg, 0, none⟩) (s.H.length + 1) cap1) = W4 at hE hX4 hR4 ⊢
    have e0 : W4.cell? ⟨g, 0, none⟩ = some (.slice (some ⟨gg, 0, none⟩) (s.H.length + 1) cap1) := by
      have := hE.net.blk.cell 0
      simpa [CS.stored, CS.hv] using this
    have q0 : W4.cell? ⟨w.heap.size, 0, none⟩ = some (.string f) := hX4.cell 0
    have q1 : W4.cell? ⟨w.heap.size, 1, none⟩ = some (.string t) := hX4.cell 1
    have q2 : W4.cell? ⟨w.heap.size, 2, none⟩ = some (.slice a bs.length cap) := hX4.cell 2
    have l5 := hE.net.blk.lt
    have l6 := hX4.lt
    have HE := Lib.hid hE
    have HR4 := Lib.hid hR4
    clear hE hX4 hR4 hW4 d1 f1 l3 y1 ly hnn h63 h03 h01 hby hlt hb b0 l1 x0 x1 x2 l2
    go_wp2_with fail
    have hF' : (s.stored ⟨f, t, a1, c1, bs⟩ (some ⟨gg, 0, none⟩) cap1).F.length ≤ 1000000 := by simp [CS.stored]; omega
    have hx1' : (s.stored ⟨f, t, a1, c1, bs⟩ (some ⟨gg, 0, none⟩) cap1).next ≤ 1000000000 := by simp [CS.stored]; omega
    have HL := Lib.hid (launch_any g _ f t _ bs s.H.length _ HE.out.net.drew HR4.out.drew hn hF' hx0 hx1')
    clear hF' hx1'
    have hwr : IntKind.i64.wrap (s.H.length : Int) = (s.H.length : Int) := by rw [IntKind.wrap_i64]; omega
    go_region_law (go_simp; go_at_call 56; refine HL.out.mono ?_; rintro e w5 ⟨rfl, a2, c2, fa, fc, hS5⟩)
    all_goals
      have hS5' := (HE.out.trans (hS5.pre (nbelow_drew _))).pre HP.out
      have hE5 : ((s.stored ⟨f, t, a1, c1, bs⟩ (some ⟨gg, 0, none⟩) cap1).nexted.launched ⟨⟨f, t, a2, c2, bs⟩, s.next, s.H.length⟩ fa fc).E.length ≤ 1000000 := by simp [CS.stored, CS.nexted, CS.launched]; omega
      have hno := Lib.hid (note_any g _ 1 s.next (-1) w5 hS5'.net hE5)
      have HS5 := Lib.hid hS5'
      clear hS5 hS5' hE5
      go_wp2_with (go_at_call 57; refine hno.out.mono ?_; rintro e w6 ⟨rfl, ea, ec, hS6⟩)
      rw [Exit.noGoto_ret]
      exact bodyPost_ret (v := .tuple #[.int .i64 s.next, .int .i64 0]) (by simp [results, Try.results25, go_sem]; rfl) rfl ⟨rfl, _, _, _, _, _, _, _, _, _, _, HS5.out.trans hS6⟩

end Go.Proofs.Yticnklmpplicfaa
