/- The contract of Send. -/
import Derived.Test.YticnklmpplicfaaNH
import Derived.WalkMore
import Derived.ScopeJumps
namespace Go.Proofs.Yticnklmpplicfaa
open Go.RowKit

def CS.stored (s : CS) (p : Pk) (a : Option Addr) (c : Nat) : CS := { s with ha := a, hc := c, H := s.H ++ [p] }

theorem Net.stored {w w1 : World} {g gg cap N : Nat} {s : CS} {f : Pk} (h : Net w g s) (hk : Kept (fun k => s.hv.ownBlock = some k) w w1)
    (ho : w1.ownsRow 0 67 3 (.slice (some ⟨gg, 0, none⟩) (s.H.length + 1) cap) (s.H.length + 1) (pkCells s.H ++ f.cells)) (hat : s.hv.ownBlock = some gg ∨ N ≤ gg)
    (hp : OwnB w f.v f.bs) (hl : f.bs.length ≤ 65536) (hf : ∀ k, f.v.ownBlock = some k → N ≤ k) (hN : ∀ p ∈ s.pks, ∀ k, p.v.ownBlock = some k → k < N) :
    Net (w1.setCell ⟨g, 0, none⟩ (.slice (some ⟨gg, 0, none⟩) (s.H.length + 1) cap)) g (s.stored f (some ⟨gg, 0, none⟩) cap) ∧
    Kept (Own g s) w (w1.setCell ⟨g, 0, none⟩ (.slice (some ⟨gg, 0, none⟩) (s.H.length + 1) cap)) ∧ ∀ k, Own g (s.stored f (some ⟨gg, 0, none⟩) cap) k → Own g s k ∨ N ≤ k := by
  have hgb : Blk w1 g 63 #[s.hv, s.fv, .int .i64 s.next, .map s.m, s.ev] := h.blk.kept hk fun e => ty_ne h.blk.ty (own_ty h.hist e) (by decide)
  have hgg : gg ≠ g := by
    rintro rfl
    exact ty_ne hgb.ty (own_ty ho rfl) (by decide)
  have hK : Kept (fun k => k = g ∨ s.hv.ownBlock = some k) w (w1.setCell ⟨g, 0, none⟩ (.slice (some ⟨gg, 0, none⟩) (s.H.length + 1) cap)) :=
    (hk.mono fun _ _ e => .inr e).setCell (.inl (.inl rfl)) _
  have t0 := h.blk.ty
  have hpk : ∀ p, p ∈ (s.stored f (some ⟨gg, 0, none⟩) cap).pks ↔ p ∈ s.pks ∨ p = f := by
    intro p
    simp only [CS.stored, CS.pks, List.mem_append, List.mem_singleton]
    exact ⟨fun h => by rcases h with (h | h) | h <;> simp [h], fun h => by rcases h with (h | h) | h <;> simp [h]⟩
  have hob : ∀ p : Pk, OwnB w p.v p.bs → OwnB (w1.setCell ⟨g, 0, none⟩ (.slice (some ⟨gg, 0, none⟩) (s.H.length + 1) cap)) p.v p.bs := fun p hp => own_kept hp hK fun k e hT => by
      rcases hT with rfl | hT
      · exact ty_ne t0 (own_ty hp e) (by decide)
      · exact ty_ne (own_ty h.hist hT) (own_ty hp e) (by decide)
  refine ⟨⟨?_, ?_, ?_, ?_, ?_, ?_, ?_, ?_⟩, hK.mono ?_, ?_⟩
  · have := hgb.set_ 0 (.slice (some ⟨gg, 0, none⟩) (s.H.length + 1) cap)
    simpa [CS.stored, CS.hv, CS.fv, CS.ev] using this
  · have := ownsRow_setCell_other ho (a := ⟨g, 0, none⟩) (by simp [Value.ownBlock]; exact hgg) (.slice (some ⟨gg, 0, none⟩) (s.H.length + 1) cap)
    simpa [CS.stored, CS.hv, pkCells_snoc] using this
  · exact own_kept h.fly hK fun k e hT => by
      rcases hT with rfl | hT
      · exact ty_ne t0 (own_ty h.fly e) (by decide)
      · exact ty_ne (own_ty h.hist hT) (own_ty h.fly e) (by decide)
  · exact own_kept h.evs hK fun k e hT => by
      rcases hT with rfl | hT
      · exact ty_ne t0 (own_ty h.evs e) (by decide)
      · exact ty_ne (own_ty h.hist hT) (own_ty h.evs e) (by decide)
  · exact h.map.kept hK fun k e hT => by
      rcases hT with rfl | hT
      · exact ty_no t0 (h.map.ty e).1
      · exact ty_no (own_ty h.hist hT) (h.map.ty e).1
  · intro p hpp
    rcases (hpk p).1 hpp with h1 | rfl
    · exact hob p (h.own p h1)
    · exact hob _ hp
  · intro p hpp
    rcases (hpk p).1 hpp with h1 | rfl
    · exact h.len p h1
    · exact hl
  · have hperm : ((s.stored f (some ⟨gg, 0, none⟩) cap).pks.map Pk.v).Perm (s.pks.map Pk.v ++ [f.v]) := by
      simp only [CS.stored, CS.pks, List.map_append, List.map_cons, List.map_nil, List.append_assoc]
      exact List.Perm.append_left _ List.perm_append_comm
    refine (List.Perm.pairwise_iff (fun {x y} hxy => ?_) hperm).2 ?_
    · exact fun k h1 h2 => hxy k h2 h1
    rw [List.pairwise_append]
    refine ⟨h.sep, by simp, ?_⟩
    intro u hu v hv k hk' hk2
    simp only [List.mem_singleton] at hv
    subst hv
    obtain ⟨p, hp1, rfl⟩ := List.mem_map.1 hu
    have h1 := hN p hp1 k hk'
    have h2 := hf k hk2
    omega
  · rintro k _ (rfl | e)
    · exact .inl rfl
    · exact .inr (.inl e)
  · rintro k (rfl | e | e | e | e | ⟨p, hp1, e⟩)
    · exact .inl (.inl rfl)
    · have : gg = k := by simpa [CS.stored, CS.hv, Value.ownBlock] using e
      subst this
      exact hat.imp (fun e => .inr (.inl e)) (fun e => e)
    · exact .inl (.inr (.inr (.inl e)))
    · exact .inl (.inr (.inr (.inr (.inl e))))
    · exact .inl (.inr (.inr (.inr (.inr (.inl e)))))
    · rcases (hpk p).1 hp1 with h1 | rfl
      · exact .inl (.inr (.inr (.inr (.inr (.inr ⟨p, h1, e⟩)))))
      · exact .inr (hf k e)

theorem store_aux {W w2 w3 : World} {o : Obj} {g : Nat} {s : CS} (h : Net W g s) (hb : Below W.drew.heap.size W.drew w2) (hg : (w2.alloc o).grownBy w3 s.hv.ownBlock) :
    Kept (fun k => s.hv.ownBlock = some k) W w3 ∧ Blk w3 g 63 #[s.hv, s.fv, .int .i64 s.next, .map s.m, s.ev] := by
  have hK0 : Kept (fun k => s.hv.ownBlock = some k) W (w2.alloc o) :=
    ((Kept.refl _ _).drew.trans (Kept.of_below hb)).trans ((Kept.refl (fun k => s.hv.ownBlock = some k) w2).alloc _)
  have hK : Kept (fun k => s.hv.ownBlock = some k) W w3 := hK0.trans
      ⟨hg.os, hg.tape, hg.output, hg.size, fun i hi hn => hg.block i hi fun e => hn e.symm⟩
  exact ⟨hK, h.blk.kept hK fun e => ty_ne h.blk.ty (own_ty h.hist e) (by decide)⟩

theorem store_end {W1 w2 w3 : World} {o : Obj} {g gg cap c1 : Nat} {a1 : Option Addr} {f t : ByteArray} {bs : List Int} {s : CS} (h : Net W1 g s) (hb : Below W1.drew.heap.size W1.drew w2)
    (ho : OwnB w2 (.slice a1 bs.length c1) bs) (hf : ∀ k, (Value.slice a1 bs.length c1).ownBlock = some k → W1.drew.heap.size ≤ k) (hl : bs.length ≤ 65536)
    (hg : (w2.alloc o).grownBy w3 s.hv.ownBlock) (hown : w3.ownsRow 0 67 3 (.slice (some ⟨gg, 0, none⟩) (s.H.length + 1) cap) (s.H.length + 1) (pkCells s.H ++ Pk.cells ⟨f, t, a1, c1, bs⟩))
    (hat : s.hv.ownBlock = some gg ∨ gg = (w2.alloc o).heap.size) :
    Step g W1 s (w3.setCell ⟨g, 0, none⟩ (.slice (some ⟨gg, 0, none⟩) (s.H.length + 1) cap)) (s.stored ⟨f, t, a1, c1, bs⟩ (some ⟨gg, 0, none⟩) cap) := by
  have hnn := h.drew.below hb
  have hz : W1.heap.size ≤ w2.heap.size := hb.size
  have hk : Kept (fun k => s.hv.ownBlock = some k) w2 w3 := (((Kept.refl (fun k => s.hv.ownBlock = some k) w2).alloc _)).trans
      ⟨hg.os, hg.tape, hg.output, hg.size, fun i hi hn => hg.block i hi fun e => hn e.symm⟩
  have hL := hnn.stored (f := ⟨f, t, a1, c1, bs⟩) (N := W1.heap.size) hk hown (hat.imp (fun e => e) (fun e => by simp at e; omega)) ho hl hf (fun p hp k e => Own.lt h (.inr (.inr (.inr (.inr (.inr ⟨p, hp, e⟩))))))
  refine ⟨hL.1, ?_, fun k hk' => hL.2.2 k hk'⟩
  have k1 : Kept (Own g s) W1 w2 := ((Kept.refl _ _).drew).trans (Kept.of_below hb)
  exact k1.trans hL.2.1

theorem nbelow_drew (w : World) : Below w.heap.size w w.drew := ⟨rfl, rfl, rfl, Nat.le_refl _, fun _ _ => rfl⟩

/-- An error of a call that gives an identifier. -/
def Fail2 (W : World) (x k : Int) (e : Ending) (w' : World) : Prop := e = .returned (.tuple #[.int .i64 x, .int .i64 k]) ∧ Below W.heap.size W w'

/-- What Send gives. -/
def Sent (g : Nat) (W : World) (s : CS) (f t : ByteArray) (bs : List Int) (e : Ending) (w' : World) : Prop :=
  e = .returned (.tuple #[.int .i64 s.next, .int .i64 0]) ∧ ∃ a1 c1 ha hc a2 c2 fa fc ea ec,
    Step g W s w' ((((s.stored ⟨f, t, a1, c1, bs⟩ ha hc).nexted.launched ⟨⟨f, t, a2, c2, bs⟩, s.next, s.H.length⟩ fa fc)).noted ⟨1, s.next, -1⟩ ea ec)

set_option maxHeartbeats 6400000 in
set_option maxRecDepth 20000 in
theorem send_ok (g : Nat) (s : CS) (f t : ByteArray) (v : Value) (bs : List Int) (w : World) (h : Net w g s) (hr : Rd w v bs) (hvo : ∀ k, v.ownBlock = some k → ¬ Own g s k) (hv : validB f t bs.length = true) (hf0 : f.size ≤ 9223372036854775807) (ht0 : t.size ≤ 9223372036854775807) (hn : bs.length ≤ 65536)
    (hF : s.F.length < 64) (hH : s.H.length < 1024) (hE : s.E.length ≤ 100000) (hx0 : 0 ≤ s.next) (hx1 : s.next ≤ 1000000) :
    Calls Try.prog 25 #[.pointer (some ⟨g, 0, none⟩), .agg #[.string f, .string t, v]] w (Sent g w s f t bs) := by
  obtain ⟨i0, hi0, hz0, hz1, hz2⟩ := info_parts Try.info67
  obtain ⟨a, cap, rfl, -⟩ := hr.form
  have HH := Lib.hid h
  have HR := Lib.hid hr
  have hv' := valid_any f t a bs.length cap (w.alloc (.cells #[.string f, .string t, .slice a bs.length cap] 67)) hf0 ht0 (by omega)
  rw [hv] at hv'
  have lg := h.blk.lt
  clear h hr
  go_enter Try.func25, Try.ntmps25
  go_wp2_with fail
  go_step3
  go_wp2_with fail
  refine hv'.mono ?_; rintro e w1 ⟨rfl, hb1⟩
  have hn1 := (HH.out.alloc (.cells #[.string f, .string t, .slice a bs.length cap] 67)).below hb1
  have hbox : Blk w1 w.heap.size 67 #[.string f, .string t, .slice a bs.length cap] := (Blk.new _ _ _).below hb1 (by simp)
  have hr1 := (HR.out.alloc (.cells #[.string f, .string t, .slice a bs.length cap] 67)).below hb1
  have hfl := full_any g s w1 hn1
  rw [show decide (64 ≤ s.F.length) = false by simp; omega] at hfl
  have b0 : w1.cell? ⟨g, 0, none⟩ = some s.hv := hn1.blk.cell 0
  have l1 := hn1.blk.lt
  have x0 : w1.cell? ⟨w.heap.size, 0, none⟩ = some (.string f) := hbox.cell 0
  have x1 : w1.cell? ⟨w.heap.size, 1, none⟩ = some (.string t) := hbox.cell 1
  have x2 : w1.cell? ⟨w.heap.size, 2, none⟩ = some (.slice a bs.length cap) := hbox.cell 2
  have l2 := hbox.lt
  unfold CS.hv at b0
  have HN := Lib.hid hn1
  have HX := Lib.hid hbox
  have HR1 := Lib.hid hr1
  have hp : Below w.heap.size w w1 := nbelow_box hb1
  have HP := Lib.hid hp
  clear hn1 hbox hr1 hb1 hp hv'
  go_wp2_with fail
  refine hfl.mono ?_; rintro e w1' ⟨rfl, rfl⟩
  clear hfl
  go_wp2_with fail
  have h03 : 0 < 3 := by omega
  have h01 : 0 < 1 := by omega
  have h63 : s.H.length + 1 ≤ maxLen := by unfold maxLen; omega
  have hby : (s.H.length + 1) * 56 ≤ 140737488355328 := by omega
  go_region_law (first
    | (go_simp; go_at_call 55; refine (clone_any _ _ _ _ _ (HR1.out.drew) hn).mono ?_; rintro e w2 ⟨a1, c1, rfl, ho, hb, hf⟩; have hnn := HN.out.drew.below hb; have y1 : w2.cell? ⟨g, 0, none⟩ = some (.slice s.ha s.H.length s.hc) := hnn.blk.cell 0; have ly := hnn.blk.lt)
    | (refine step_append_lies _ rfl _ _ _ rfl 0 67 i0 _ 3 56 Try.underlying58 hi0 hz0 hz1 hz2 rfl h03 s.hv s.H.length (pkCells s.H) rfl ((HN.out.drew.below hb).hist.alloc _) ⟨w2.heap.size, 0, none⟩ 1 1 (Pk.cells ⟨f, t, a1, c1, bs⟩) rfl rfl (World.news_of_block (cs := #[.string f, .string t, .slice a1 bs.length c1]) (t := 67) (fr := (0, 0)) (heap_alloc_new w2 _)) (pk_one _) h01 h63 hby (Nat.zero_le _) _ rfl ?_; intro gg cap1 w3 hown3 hg3 hat hlt; have hx := store_aux HN.out hb hg3; have d1 := hx.2.cell 0; have f1 := hx.2.frozen 0; have l3 := hx.2.lt; simp at d1))
  all_goals
    have hE := store_end HN.out hb ho hf hn hg3 hown3 hat
    have hX4 := HX.out.kept hE.kept (fun e => by have := Own.lt HH.out e; omega)
    have hR4 := HR1.out.kept hE.kept hvo
    clear hown3 hg3 hat hx ho hf
    generalize hW4 : w3.setCell ⟨g, 0, none⟩ (.slice (some ⟨gg, 0, none⟩) (s.H.length + 1) cap1) = W4 at hE hX4 hR4 ⊢
    have e0 : W4.cell? ⟨g, 0, none⟩ = some (.slice (some ⟨gg, 0, none⟩) (s.H.length + 1) cap1) := by
      have := hE.net.blk.cell 0
      simpa [CS.stored, CS.hv] using this
    have q0 : W4.cell? ⟨w.heap.size, 0, none⟩ = some (.string f) := hX4.cell 0
    have q1 : W4.cell? ⟨w.heap.size, 1, none⟩ = some (.string t) := hX4.cell 1
    have q2 : W4.cell? ⟨w.heap.size, 2, none⟩ = some (.slice a bs.length cap) := hX4.cell 2
    have l5 := hE.net.blk.lt
    have l6 := hX4.lt
    have HE := Lib.hid hE
    have HR4 := Lib.hid hR4
    clear hE hX4 hR4 hW4 d1 f1 l3 y1 ly hnn h63 h03 h01 hby hlt hb b0 l1 x0 x1 x2 l2
    go_wp2_with fail
    have hF' : (s.stored ⟨f, t, a1, c1, bs⟩ (some ⟨gg, 0, none⟩) cap1).F.length ≤ 1000000 := by simp [CS.stored]; omega
    have hx1' : (s.stored ⟨f, t, a1, c1, bs⟩ (some ⟨gg, 0, none⟩) cap1).next ≤ 1000000000 := by simp [CS.stored]; omega
    have HL := Lib.hid (launch_any g _ f t _ bs s.H.length _ HE.out.net.drew HR4.out.drew hn hF' hx0 hx1')
    clear hF' hx1'
    have hwr : IntKind.i64.wrap (s.H.length : Int) = (s.H.length : Int) := by rw [IntKind.wrap_i64]; omega
    go_region_law (go_simp; go_at_call 56; refine HL.out.mono ?_; rintro e w5 ⟨rfl, a2, c2, fa, fc, hS5⟩)
    all_goals
      have hS5' := (HE.out.trans (hS5.pre (nbelow_drew _))).pre HP.out
      have hE5 : ((s.stored ⟨f, t, a1, c1, bs⟩ (some ⟨gg, 0, none⟩) cap1).nexted.launched ⟨⟨f, t, a2, c2, bs⟩, s.next, s.H.length⟩ fa fc).E.length ≤ 1000000 := by simp [CS.stored, CS.nexted, CS.launched]; omega
      have hno := Lib.hid (note_any g _ 1 s.next (-1) w5 hS5'.net hE5)
      have HS5 := Lib.hid hS5'
      clear hS5 hS5' hE5
      go_wp2_with (go_at_call 57; refine hno.out.mono ?_; rintro e w6 ⟨rfl, ea, ec, hS6⟩)
      rw [Exit.noGoto_ret]
      exact bodyPost_ret (v := .tuple #[.int .i64 s.next, .int .i64 0]) (by simp [results, Try.results25, go_sem]; rfl) rfl ⟨rfl, _, _, _, _, _, _, _, _, _, _, HS5.out.trans hS6⟩

end Go.Proofs.Yticnklmpplicfaa
