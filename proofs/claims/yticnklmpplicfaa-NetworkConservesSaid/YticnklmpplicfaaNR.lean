/- The contracts of Deliver and Block. -/
import Derived.Test.YticnklmpplicfaaNQ
import Derived.BigQuiet
namespace Go.Proofs.Yticnklmpplicfaa
open Go.RowKit

/-- A delivery that fails. -/
def Undelivered (W : World) (k : Int) (e : Ending) (w' : World) : Prop :=
  e = .returned (.tuple #[.agg #[.string ByteArray.empty, .string ByteArray.empty, .slice none 0 0], .int .i64 k]) ∧ Below W.heap.size W w'

/-- A delivery. -/
def Delivered (g : Nat) (W : World) (s : CS) (id : Int) (j : Nat) (f : Fl) (e : Ending) (w' : World) : Prop :=
  e = .returned (.tuple #[.agg #[.string f.p.fr, .string f.p.to, f.p.v], .int .i64 0]) ∧ ∃ ea ec, Step g W s w' ((s.noted ⟨2, id, -1⟩ ea ec).taken j) ∧ OwnB w' f.p.v f.p.bs

set_option maxHeartbeats 1600000 in
set_option maxRecDepth 20000 in
theorem deliver_none (g : Nat) (s : CS) (id : Int) (w : World) (h : Net w g s) (hF : s.F.length ≤ 1000000) (hi : fi s.F id = none) :
    Calls Try.prog 26 #[.pointer (some ⟨g, 0, none⟩), .int .i64 id] w (Undelivered w 9) := by
  have hfd := find_any g s id (w.alloc (.cells #[.string { data := #[] }, .string { data := #[] }, .slice none 0 0] 67)) (h.alloc _) hF
  rw [hi, show ixv none = -1 from rfl] at hfd
  clear h
  go_enter Try.func26, Try.ntmps26
  go_wp2_with fail
  refine hfd.mono ?_; rintro e w1 ⟨rfl, hb1⟩
  have hbx : Blk w1 w.heap.size 67 #[.string { data := #[] }, .string { data := #[] }, .slice none 0 0] := (Blk.new _ _ _).below hb1 (by simp)
  have HP := Lib.hid (nbelow_box hb1)
  have y0 := hbx.cell 0
  have y1 := hbx.cell 1
  have y2 := hbx.cell 2
  have g0 := hbx.frozen 0
  have g1 := hbx.frozen 1
  have g2 := hbx.frozen 2
  have lx := hbx.lt
  simp at y0 y1 y2
  clear hfd hb1 hbx
  go_wp2_with fail
  refine bodyPost_ret (v := .tuple #[.agg #[.string ByteArray.empty, .string ByteArray.empty, .slice none 0 0], .int .i64 9]) (by simp [results, Try.results26, go_sem, y0, y1, y2]; rfl) rfl ⟨rfl, ?_⟩
  exact ((HP.out.setCell (by simp) _).setCell (by simp) _).setCell (by simp) _

theorem Step.side {g b : Nat} {w w' w'' : World} {s s' : CS} (h : Step g w s w' s') (hK : Kept (fun k => k = b) w' w'') (hb : w.heap.size ≤ b) (hn : ¬ Own g s' b) : Step g w s w'' s' :=
  ⟨h.net.kept hK (fun k hk e => hn (e ▸ hk)), h.kept.trans' hK (fun i hi e => by omega), h.own⟩

/-- Whether a pair is blocked. -/
def Blocked (s : CS) (f t : ByteArray) (b : Bool) : Prop := (b = false ∧ ∀ x ∈ s.L, x.1 ≠ (f, t)) ∨ ∃ x ∈ s.L, x.1 = (f, t) ∧ x.2 = b

theorem Net.drewN {w : World} {g : Nat} {s : CS} (h : Net w g s) (n : Nat) : Net (w.drewN n) g s := h.kept (S := fun _ => False) ⟨rfl, rfl, rfl, Nat.le_refl _, fun _ _ _ => rfl⟩ (fun _ _ h => h)

set_option maxHeartbeats 3200000 in
set_option maxRecDepth 20000 in
theorem deliver_any (g : Nat) (s : CS) (id : Int) (j : Nat) (f : Fl) (w : World) (h : Net w g s) (hL : Short s.L) (hi : fi s.F id = some j) (hf : s.F[j]? = some f) (hF : s.F.length ≤ 1000000) (hE : s.E.length ≤ 100000) (hf0 : f.p.fr.size ≤ maxLen) (ht0 : f.p.to.size ≤ maxLen) :
    Calls Try.prog 26 #[.pointer (some ⟨g, 0, none⟩), .int .i64 id] w fun e w' => ∃ b, Blocked s f.p.fr f.p.to b ∧ (b = true → Undelivered w 8 e w') ∧ (b = false → Delivered g w s id j f e w') := by
  have hfd := find_any g s id (w.alloc (.cells #[.string { data := #[] }, .string { data := #[] }, .slice none 0 0] 67)) (h.alloc _) hF
  rw [hi, show ixv (some j) = (j : Int) from rfl] at hfd
  have HH := Lib.hid h
  have HF := Lib.hid hf
  have HLs := Lib.hid hL
  have Hf0 := Lib.hid hf0
  have Ht0 := Lib.hid ht0
  have h0' : ¬ (j : Int) < 0 := by omega
  clear h hf hL hf0 ht0
  go_enter Try.func26, Try.ntmps26
  go_wp2_with fail
  refine hfd.mono ?_; rintro e w1 ⟨rfl, hb1⟩
  have hn1 := (HH.out.alloc _).below hb1
  have HN := Lib.hid hn1
  have hbx : Blk w1 w.heap.size 67 #[.string { data := #[] }, .string { data := #[] }, .slice none 0 0] := (Blk.new _ _ _).below hb1 (by simp)
  have HX := Lib.hid hbx
  have HP := Lib.hid (nbelow_box hb1)
  obtain ⟨b, hbb, hb2, _, hcap, hj, hx⟩ := hn1.fly_at j f HF.out
  have x0 := (hx 0 (.string f.p.fr) rfl (by omega)).1
  have x1 := (hx 1 (.string f.p.to) rfl (by omega)).1
  simp only [Nat.add_zero] at x0
  have b1 : w1.cell? ⟨g, 1, none⟩ = some s.fv := hn1.blk.cell 1
  have b3 : w1.cell? ⟨g, 3, none⟩ = some (.map s.m) := hn1.blk.cell 3
  have l1 := hn1.blk.lt
  unfold CS.fv at b1
  rw [hbb] at b1
  obtain ⟨bb, hlk, hbl⟩ := lookup_any w1 hn1.map HLs.out f.p.fr f.p.to Hf0.out Ht0.out
  unfold kv at hlk
  have HBL := Lib.hid (show Blocked s f.p.fr f.p.to bb from hbl)
  have lx := hbx.lt
  have y0 := hbx.cell 0
  have y1 := hbx.cell 1
  have y2 := hbx.cell 2
  have g0 := hbx.frozen 0
  have g1 := hbx.frozen 1
  have g2 := hbx.frozen 2
  simp at y0 y1 y2
  clear hfd hb1 hn1 hx hbb hbl hbx
  cases bb with
  | true =>
    go_wp2_with fail
    go_quiet (fail)
    go_wp2_with fail
    refine bodyPost_ret (v := .tuple #[.agg #[.string ByteArray.empty, .string ByteArray.empty, .slice none 0 0], .int .i64 8]) (by simp [results, Try.results26, go_sem, y0, y1, y2]; rfl) rfl ⟨true, HBL.out, (fun _ => ⟨rfl, ?_⟩), (fun e => by cases e)⟩
    exact (((nbelow_trans HP.out (nbelow_drewN _ _)).setCell (by simp) _).setCell (by simp) _).setCell (by simp) _
  | false =>
    go_wp2_with fail
    go_quiet (fail)
    have hno := Lib.hid (note_any g s 2 id (-1) _ (HN.out.drewN nq) (by omega))
    go_wp2_with fail
    refine hno.out.mono ?_; rintro e w3 ⟨rfl, ea, ec, hS3⟩
    have hS := hS3.pre (nbelow_trans HP.out (nbelow_drewN _ _))
    have hX3 := (HX.out.drewN nq).kept hS3.kept (fun e => by have := Own.lt HH.out e; omega)
    have hT := take_any g _ j f w3 hS3.net HF.out hF
    have HS := Lib.hid hS
    have HX3 := Lib.hid hX3
    have HO3 := Lib.hid hS3.own
    clear hno hS3 hS hX3 y0 y1 y2 g0 g1 g2 hlk
    go_wp2_with fail
    refine hT.mono ?_; rintro e w4 ⟨rfl, hS4, ho4⟩
    have hb3 : ¬ Own g (s.noted ⟨2, id, -1⟩ ea ec) w.heap.size := fun e => by
      rcases HO3.out _ e with e | e
      · have := Own.lt HH.out e; omega
      · simp at e; omega
    have hX4 := HX3.out.kept hS4.kept hb3
    have hb4 : ¬ Own g ((s.noted ⟨2, id, -1⟩ ea ec).taken j) w.heap.size := fun e => by
      rcases hS4.own _ e with e | e
      · exact hb3 e
      · have := HX3.out.lt; omega
    have HS4 := Lib.hid (HS.out.trans hS4)
    have HO4 := Lib.hid ho4
    have HB4 := Lib.hid hb4
    have y0 := hX4.cell 0
    have y1 := hX4.cell 1
    have y2 := hX4.cell 2
    have g0 := hX4.frozen 0
    have g1 := hX4.frozen 1
    have g2 := hX4.frozen 2
    have ly := hX4.lt
    simp at y0 y1 y2
    have hm : f.p ∈ s.pks := List.mem_append_right _ (List.mem_map_of_mem (List.mem_of_getElem? HF.out))
    have HM := Lib.hid (own_lt (k := w.heap.size) (HH.out.own _ hm))
    clear hX4 hb3 hb4 hS4 ho4 hT hm
    unfold Pk.v
    go_wp2_with fail
    have HK := ((((Kept.refl (fun k => k = w.heap.size) w4).setCell (p := ⟨w.heap.size, 0, none⟩) (.inl rfl) (.string f.p.fr)).setCell (p := ⟨w.heap.size, 1, none⟩) (.inl rfl) (.string f.p.to)).setCell (p := ⟨w.heap.size, 2, none⟩) (.inl rfl) (.slice f.p.a f.p.bs.length f.p.cap))
    refine bodyPost_ret (v := .tuple #[.agg #[.string f.p.fr, .string f.p.to, .slice f.p.a f.p.bs.length f.p.cap], .int .i64 0]) (by simp [results, Try.results26, go_sem, y0, y1, y2]) rfl ⟨false, HBL.out, (fun e => by cases e), (fun _ => ⟨rfl, ea, ec, HS4.out.side HK (Nat.le_refl _) HB4.out, ?_⟩)⟩
    exact own_kept HO4.out HK fun k hk e => by
      subst e
      have := HM.out hk
      omega

theorem putMap {w : World} {g k : Nat} {s : CS} {es : Array MapEntry} {clock : Nat} {L : List ((ByteArray × ByteArray) × Bool)} (h : Net w g s) (hm : s.m = some k) (he : mapEntries L es) :
    Step g w s { w with heap := w.heap.setIfInBounds k (.map es clock) } { s with L := L } := by
  have hk : k < w.heap.size := (h.map.ty hm).2
  have hty := (h.map.ty hm).1
  have hK : Kept (fun q => q = k) w { w with heap := w.heap.setIfInBounds k (.map es clock) } :=
    ⟨rfl, rfl, rfl, by simp, fun i hi hn => by simp [Ne.symm hn]⟩
  have hne : ∀ {q : Nat} {t : TypeId}, tyAt w q = some t → ¬ q = k := fun h1 e => ty_no (e ▸ h1) hty
  refine ⟨⟨h.blk.kept hK (hne h.blk.ty), ?_, ?_, ?_, ?_, ?_, h.len, h.sep⟩, hK.mono fun q _ e => .inr (.inr (.inr (.inr (.inl (by rw [hm, e]))))), fun q hq => .inl hq⟩
  · exact own_kept h.hist hK fun q e => hne (own_ty h.hist e)
  · exact own_kept h.fly hK fun q e => hne (own_ty h.fly e)
  · exact own_kept h.evs hK fun q e => hne (own_ty h.evs e)
  · refine ⟨fun e => ?_, fun q hq => ?_⟩
    · have : s.m = none := e
      rw [hm] at this; cases this
    · have : q = k := by
        have h1 : s.m = some q := hq
        rw [hm] at h1; injection h1 with h1; exact h1.symm
      subst this
      exact ⟨es, clock, by simp [hk], he⟩
  · exact fun p hp => own_kept (h.own p hp) hK fun q e => hne (own_ty (h.own p hp) e)

theorem newMap {w : World} {g : Nat} {s : CS} (h : Net w g s) (hL : s.L = []) :
    Step g w s ((w.alloc (.map #[] 0)).setCell ⟨g, 3, none⟩ (.map (some w.heap.size))) { s with m := some w.heap.size } := by
  have h1 := h.alloc (.map #[] 0)
  have hK : Kept (fun q => q = g) (w.alloc (.map #[] 0)) ((w.alloc (.map #[] 0)).setCell ⟨g, 3, none⟩ (.map (some w.heap.size))) := (Kept.refl (fun q => q = g) _).setCell (p := ⟨g, 3, none⟩) (.inl rfl) _
  have t0 := h1.blk.ty
  have lg := h.blk.lt
  refine ⟨⟨?_, ?_, ?_, ?_, ?_, ?_, h.len, h.sep⟩, ((Kept.refl _ w).alloc _).trans (hK.mono fun q _ e => .inl e), ?_⟩
  · have := h1.blk.set_ 3 (.map (some w.heap.size))
    simpa [CS.hv, CS.fv, CS.ev] using this
  · exact own_kept h1.hist hK fun k e hT => by subst hT; exact ty_ne t0 (own_ty h1.hist e) (by decide)
  · exact own_kept h1.fly hK fun k e hT => by subst hT; exact ty_ne t0 (own_ty h1.fly e) (by decide)
  · exact own_kept h1.evs hK fun k e hT => by subst hT; exact ty_ne t0 (own_ty h1.evs e) (by decide)
  · refine ⟨(fun e => by cases e), fun q hq => ?_⟩
    have : q = w.heap.size := by injection hq with h1; exact h1.symm
    subst this
    refine ⟨#[], 0, ?_, by rw [hL]; rfl⟩
    rw [hK.block _ (by simp) (by omega)]
    exact heap_alloc_new w _
  · exact fun p hp => own_kept (h1.own p hp) hK fun k e hT => by subst hT; exact ty_ne t0 (own_ty (h1.own p hp) e) (by decide)
  · rintro q (e | e | e | e | e | e)
    · exact .inl (.inl e)
    · exact .inl (.inr (.inl e))
    · exact .inl (.inr (.inr (.inl e)))
    · exact .inl (.inr (.inr (.inr (.inl e))))
    · exact .inr (by have e' : some w.heap.size = some q := e; injection e' with e'; omega)
    · exact .inl (.inr (.inr (.inr (.inr (.inr e)))))

end Go.Proofs.Yticnklmpplicfaa
