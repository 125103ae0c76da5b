/- The contract of launch: a copy of a packet is put in flight. -/
import Derived.Test.YticnklmpplicfaaND
namespace Go.Proofs.Yticnklmpplicfaa
open Go.RowKit

def CS.launched (s : CS) (f : Fl) (a : Option Addr) (c : Nat) : CS := { s with fa := a, fc := c, F := s.F ++ [f] }
def CS.nexted (s : CS) : CS := { s with next := s.next + 1 }

theorem Net.nexted {w : World} {g : Nat} {s : CS} (h : Net w g s) : Step g w s (w.setCell ⟨g, 2, none⟩ (.int .i64 (s.next + 1))) s.nexted := by
  have t0 := h.blk.ty
  have hK : Kept (fun k => k = g) w (w.setCell ⟨g, 2, none⟩ (.int .i64 (s.next + 1))) := (Kept.refl (fun k => k = g) w).setCell (p := ⟨g, 2, none⟩) (.inl rfl) _
  refine ⟨⟨?_, ?_, ?_, ?_, ?_, ?_, h.len, h.sep⟩, hK.mono fun k _ e => .inl e, fun k hk => .inl hk⟩
  · have := h.blk.set_ 2 (.int .i64 (s.next + 1))
    simpa [CS.nexted, CS.hv, CS.fv, CS.ev] using this
  · exact own_kept h.hist hK fun k e hT => by subst hT; exact ty_ne t0 (own_ty h.hist e) (by decide)
  · exact own_kept h.fly hK fun k e hT => by subst hT; exact ty_ne t0 (own_ty h.fly e) (by decide)
  · exact own_kept h.evs hK fun k e hT => by subst hT; exact ty_ne t0 (own_ty h.evs e) (by decide)
  · exact h.map.kept hK fun k e hT => by subst hT; exact ty_no t0 (h.map.ty e).1
  · exact fun p hp => own_kept (h.own p hp) hK fun k e hT => by subst hT; exact ty_ne t0 (own_ty (h.own p hp) e) (by decide)

theorem Net.launched {w w1 : World} {g gg cap N : Nat} {s : CS} {f : Fl} (h : Net w g s) (hk : Kept (fun k => s.fv.ownBlock = some k) w w1)
    (ho : w1.ownsRow 0 107 5 (.slice (some ⟨gg, 0, none⟩) (s.F.length + 1) cap) (s.F.length + 1) (flCells s.F ++ f.cells)) (hat : s.fv.ownBlock = some gg ∨ N ≤ gg)
    (hp : OwnB w f.p.v f.p.bs) (hl : f.p.bs.length ≤ 65536) (hf : ∀ k, f.p.v.ownBlock = some k → N ≤ k) (hN : ∀ p ∈ s.pks, ∀ k, p.v.ownBlock = some k → k < N) :
    Net (w1.setCell ⟨g, 1, none⟩ (.slice (some ⟨gg, 0, none⟩) (s.F.length + 1) cap)) g (s.launched f (some ⟨gg, 0, none⟩) cap) ∧
    Kept (Own g s) w (w1.setCell ⟨g, 1, none⟩ (.slice (some ⟨gg, 0, none⟩) (s.F.length + 1) cap)) ∧ ∀ k, Own g (s.launched f (some ⟨gg, 0, none⟩) cap) k → Own g s k ∨ N ≤ k := by
  have hgb : Blk w1 g 63 #[s.hv, s.fv, .int .i64 s.next, .map s.m, s.ev] := h.blk.kept hk fun e => ty_ne h.blk.ty (own_ty h.fly e) (by decide)
  have hgg : gg ≠ g := by
    rintro rfl
    exact ty_ne hgb.ty (own_ty ho rfl) (by decide)
  have hK : Kept (fun k => k = g ∨ s.fv.ownBlock = some k) w (w1.setCell ⟨g, 1, none⟩ (.slice (some ⟨gg, 0, none⟩) (s.F.length + 1) cap)) :=
    (hk.mono fun _ _ e => .inr e).setCell (.inl (.inl rfl)) _
  have t0 := h.blk.ty
  have hpk : ∀ p, p ∈ (s.launched f (some ⟨gg, 0, none⟩) cap).pks ↔ p ∈ s.pks ∨ p = f.p := by
    intro p
    simp [CS.launched, CS.pks, or_assoc]
  have hob : ∀ p : Pk, OwnB w p.v p.bs → OwnB (w1.setCell ⟨g, 1, none⟩ (.slice (some ⟨gg, 0, none⟩) (s.F.length + 1) cap)) p.v p.bs := fun p hp => own_kept hp hK fun k e hT => by
      rcases hT with rfl | hT
      · exact ty_ne t0 (own_ty hp e) (by decide)
      · exact ty_ne (own_ty h.fly hT) (own_ty hp e) (by decide)
  refine ⟨⟨?_, ?_, ?_, ?_, ?_, ?_, ?_, ?_⟩, hK.mono ?_, ?_⟩
  · have := hgb.set_ 1 (.slice (some ⟨gg, 0, none⟩) (s.F.length + 1) cap)
    simpa [CS.launched, CS.hv, CS.fv, CS.ev] using this
  · exact own_kept h.hist hK fun k e hT => by
      rcases hT with rfl | hT
      · exact ty_ne t0 (own_ty h.hist e) (by decide)
      · exact ty_ne (own_ty h.fly hT) (own_ty h.hist e) (by decide)
  · have := ownsRow_setCell_other ho (a := ⟨g, 1, none⟩) (by simp [Value.ownBlock]; exact hgg) (.slice (some ⟨gg, 0, none⟩) (s.F.length + 1) cap)
    simpa [CS.launched, CS.fv, flCells_snoc] using this
  · exact own_kept h.evs hK fun k e hT => by
      rcases hT with rfl | hT
      · exact ty_ne t0 (own_ty h.evs e) (by decide)
      · exact ty_ne (own_ty h.fly hT) (own_ty h.evs e) (by decide)
  · exact h.map.kept hK fun k e hT => by
      rcases hT with rfl | hT
      · exact ty_no t0 (h.map.ty e).1
      · exact ty_no (own_ty h.fly hT) (h.map.ty e).1
  · intro p hpp
    rcases (hpk p).1 hpp with h1 | rfl
    · exact hob p (h.own p h1)
    · exact hob _ hp
  · intro p hpp
    rcases (hpk p).1 hpp with h1 | rfl
    · exact h.len p h1
    · exact hl
  · have : (s.launched f (some ⟨gg, 0, none⟩) cap).pks.map Pk.v = s.pks.map Pk.v ++ [f.p.v] := by simp [CS.launched, CS.pks]
    rw [this, List.pairwise_append]
    refine ⟨h.sep, by simp, ?_⟩
    intro u hu v hv k hk' hk2
    simp only [List.mem_singleton] at hv
    subst hv
    obtain ⟨p, hp1, rfl⟩ := List.mem_map.1 hu
    have h1 := hN p hp1 k hk'
    have h2 := hf k hk2
    omega
  · rintro k _ (rfl | e)
    · exact .inl rfl
    · exact .inr (.inr (.inl e))
  · rintro k (rfl | e | e | e | e | ⟨p, hp1, e⟩)
    · exact .inl (.inl rfl)
    · exact .inl (.inr (.inl e))
    · have : gg = k := by simpa [CS.launched, CS.fv, Value.ownBlock] using e
      subst this
      exact hat.imp (fun e => .inr (.inr (.inl e))) (fun e => e)
    · exact .inl (.inr (.inr (.inr (.inl e))))
    · exact .inl (.inr (.inr (.inr (.inr (.inl e)))))
    · rcases (hpk p).1 hp1 with h1 | rfl
      · exact .inl (.inr (.inr (.inr (.inr (.inr ⟨p, h1, e⟩)))))
      · exact .inr (hf k e)

/-- What launch gives. -/
def Launched (g : Nat) (W : World) (s : CS) (f t : ByteArray) (bs : List Int) (src : Int) (e : Ending) (w' : World) : Prop :=
  e = .returned (.int .i64 s.next) ∧ ∃ a c fa fc, Step g W s w' (s.nexted.launched ⟨⟨f, t, a, c, bs⟩, s.next, src⟩ fa fc)


theorem Net.not_u8 {w : World} {g : Nat} {s : CS} (h : Net w g s) {k : Nat} {x : Int} : w.cell? ⟨g, k, none⟩ ≠ some (.int .u8 x) := by
  intro e
  rw [h.blk.cell k] at e
  match k with
  | 0 => simp [CS.hv] at e
  | 1 => simp [CS.fv] at e
  | 2 => simp at e
  | 3 => simp at e
  | 4 => simp [CS.ev] at e
  | n + 5 => simp at e
theorem Rd.far {w : World} {g : Nat} {s : CS} {v : Value} {bs : List Int} (hr : Rd w v bs) (h : Net w g s) (i : Nat) (u : Value) : Rd (w.setCell ⟨g, i, none⟩ u) v bs :=
  ⟨hr.form, fun h0 => by
    obtain ⟨b, off, cap, hv, hc⟩ := hr.cells h0
    refine ⟨b, off, cap, hv, fun j hj => ?_⟩
    rw [World.cell?_setCell_other]
    · exact hc j hj
    · intro e
      have : g = b := congrArg Addr.block e
      subst this
      exact h.not_u8 (hc j hj)⟩

theorem launch_aux {W w2 w3 : World} {o : Obj} {g : Nat} {s : CS} (h : Net W g s) (hb : Below W.drew.heap.size W.drew w2) (hg : (w2.alloc o).grownBy w3 s.fv.ownBlock) :
    Kept (fun k => s.fv.ownBlock = some k) W w3 ∧ Blk w3 g 63 #[s.hv, s.fv, .int .i64 s.next, .map s.m, s.ev] := by
  have hK0 : Kept (fun k => s.fv.ownBlock = some k) W (w2.alloc o) :=
    ((Kept.refl _ _).drew.trans (Kept.of_below hb)).trans ((Kept.refl (fun k => s.fv.ownBlock = some k) w2).alloc _)
  have hK : Kept (fun k => s.fv.ownBlock = some k) W w3 := hK0.trans
      ⟨hg.os, hg.tape, hg.output, hg.size, fun i hi hn => hg.block i hi fun e => hn e.symm⟩
  exact ⟨hK, h.blk.kept hK fun e => ty_ne h.blk.ty (own_ty h.fly e) (by decide)⟩

theorem launch_end {w W1 w2 w3 : World} {o : Obj} {g gg cap c1 : Nat} {a1 : Option Addr} {f t : ByteArray} {bs : List Int} {src : Int} {s : CS} (h : Net w g s) (HS : Step g w s W1 s.nexted) (hb : Below W1.drew.heap.size W1.drew w2)
    (ho : OwnB w2 (.slice a1 bs.length c1) bs) (hf : ∀ k, (Value.slice a1 bs.length c1).ownBlock = some k → W1.drew.heap.size ≤ k) (hl : bs.length ≤ 65536)
    (hg : (w2.alloc o).grownBy w3 s.fv.ownBlock) (hown : w3.ownsRow 0 107 5 (.slice (some ⟨gg, 0, none⟩) (s.F.length + 1) cap) (s.F.length + 1) (flCells s.F ++ Fl.cells ⟨⟨f, t, a1, c1, bs⟩, s.next, src⟩))
    (hat : s.fv.ownBlock = some gg ∨ gg = (w2.alloc o).heap.size) :
    Step g w s (w3.setCell ⟨g, 1, none⟩ (.slice (some ⟨gg, 0, none⟩) (s.F.length + 1) cap)) (s.nexted.launched ⟨⟨f, t, a1, c1, bs⟩, s.next, src⟩ (some ⟨gg, 0, none⟩) cap) := by
  have hnn := HS.net.drew.below hb
  have hz : w.heap.size ≤ w2.heap.size := Nat.le_trans HS.kept.size hb.size
  have hk : Kept (fun k => s.nexted.fv.ownBlock = some k) w2 w3 := (((Kept.refl (fun k => s.fv.ownBlock = some k) w2).alloc _)).trans
      ⟨hg.os, hg.tape, hg.output, hg.size, fun i hi hn => hg.block i hi fun e => hn e.symm⟩
  have hL := hnn.launched (f := ⟨⟨f, t, a1, c1, bs⟩, s.next, src⟩) (N := w.heap.size) hk hown (hat.imp (fun e => e) (fun e => by simp at e; omega)) ho hl (fun k e => Nat.le_trans HS.kept.size (hf k e)) (fun p hp k e => Own.lt h (.inr (.inr (.inr (.inr (.inr ⟨p, hp, e⟩))))))
  refine ⟨hL.1, ?_, fun k hk' => ?_⟩
  · have k1 : Kept (Own g s) w w2 := (HS.kept.drew).trans (Kept.of_below hb)
    exact k1.trans' hL.2.1 fun i hi ho' => (HS.own i ho').resolve_right (by omega)
  · rcases hL.2.2 k hk' with e | e
    · rcases HS.own k e with e | e
      · exact .inl e
      · exact .inr e
    · exact .inr e

set_option maxHeartbeats 3200000 in
theorem launch_any (g : Nat) (s : CS) (f t : ByteArray) (v : Value) (bs : List Int) (src : Int) (w : World) (h : Net w g s) (hr : Rd w v bs) (hn : bs.length ≤ 65536) (hF : s.F.length ≤ 1000000) (hx0 : 0 ≤ s.next) (hx1 : s.next ≤ 1000000000) :
    Calls Try.prog 56 #[.pointer (some ⟨g, 0, none⟩), .agg #[.string f, .string t, v], .int .i64 src] w (Launched g w s f t bs src) := by
  obtain ⟨i0, hi0, hz0, hz1, hz2⟩ := info_parts Try.info107
  obtain ⟨a, cap, rfl, -⟩ := hr.form
  have c2 : w.cell? ⟨g, 2, none⟩ = some (.int .i64 s.next) := h.blk.cell 2
  have f2 := h.blk.frozen 2
  have lg := h.blk.lt
  have hS := h.nexted
  have HH := Lib.hid h
  have hbx : Blk ((w.setCell ⟨g, 2, none⟩ (.int .i64 (s.next + 1))).alloc (.cells #[.string f, .string t, .slice a bs.length cap] 67)) w.heap.size 67 #[.string f, .string t, .slice a bs.length cap] := Blk.new' _ _ _ _ (by simp)
  have hrd : Rd ((w.setCell ⟨g, 2, none⟩ (.int .i64 (s.next + 1))).alloc (.cells #[.string f, .string t, .slice a bs.length cap] 67)) (.slice a bs.length cap) bs := (hr.far h 2 _).alloc _
  have HS := Lib.hid (hS.post (nbelow1 _ (.cells #[.string f, .string t, .slice a bs.length cap] 67)))
  have HB := Lib.hid hbx
  have HR := Lib.hid hrd
  clear h hr hS hbx hrd
  go_enter Try.func56, Try.ntmps56
  go_wp2_with fail
  generalize hW : (w.setCell ⟨g, 2, none⟩ (.int .i64 (s.next + 1))).alloc (.cells #[.string f, .string t, .slice a bs.length cap] 67) = W1 at HS HB HR ⊢
  have HW := Lib.hid hW
  clear hW
  have b1 : W1.cell? ⟨g, 1, none⟩ = some s.fv := HS.out.net.blk.cell 1
  unfold CS.fv at b1
  have x0 : W1.cell? ⟨w.heap.size, 0, none⟩ = some (.string f) := HB.out.cell 0
  have x1 : W1.cell? ⟨w.heap.size, 1, none⟩ = some (.string t) := HB.out.cell 1
  have x2 : W1.cell? ⟨w.heap.size, 2, none⟩ = some (.slice a bs.length cap) := HB.out.cell 2
  have l1 := HS.out.net.blk.lt
  have l2 := HB.out.lt
  have h05 : 0 < 5 := by omega
  have h01 : 0 < 1 := by omega
  have h63 : s.F.length + 1 ≤ maxLen := by unfold maxLen; omega
  have hby : (s.F.length + 1) * 72 ≤ 140737488355328 := by omega
  go_region_law? (first
    | (go_simp; go_at_call 55; refine (clone_any _ _ _ _ _ (HR.out.drew) hn).mono ?_; rintro e w2 ⟨a1, c1, rfl, ho, hb, hf⟩; have hnn := HS.out.net.drew.below hb; have y1 : w2.cell? ⟨g, 1, none⟩ = some (.slice s.fa s.F.length s.fc) := hnn.blk.cell 1; have ly := hnn.blk.lt)
    | (refine step_append_lies _ rfl _ _ _ rfl 0 107 i0 _ 5 72 Try.underlying59 hi0 hz0 hz1 hz2 rfl h05 s.fv s.F.length (flCells s.F) rfl ((HS.out.net.drew.below hb).fly.alloc _) ⟨w2.heap.size, 0, none⟩ 1 1 (Fl.cells ⟨⟨f, t, a1, c1, bs⟩, s.next, src⟩) rfl rfl (World.news_of_block (cs := #[.string f, .string t, .slice a1 bs.length c1, .int .i64 s.next, .int .i64 src]) (t := 107) (fr := (0, 0)) (heap_alloc_new w2 _)) (fl_one _) h01 h63 hby (Nat.zero_le _) _ rfl ?_; intro gg cap1 w3 hown3 hg3 hat hlt; have hx := launch_aux HS.out.net hb hg3; have d1 := hx.2.cell 1; have f1 := hx.2.frozen 1; have l3 := hx.2.lt; simp at d1))
  all_goals
    have hE := Lib.hid (launch_end HH.out HS.out hb ho hf hn hg3 hown3 hat)
    clear hown3 hg3 hat hx ho hf
    go_wp2_with fail
    exact bodyPost_ret (v := .int .i64 s.next) (by simp [results, Try.results56, go_sem]) rfl ⟨rfl, _, _, _, _, hE.out⟩

end Go.Proofs.Yticnklmpplicfaa
