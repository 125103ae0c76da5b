/- The contract of take. -/
import Derived.Test.YticnklmpplicfaaNG
namespace Go.Proofs.Yticnklmpplicfaa
open Go.RowKit

def CS.taken (s : CS) (i : Nat) : CS := { s with F := s.F.eraseIdx i }

theorem taken_sub (s : CS) (i : Nat) : (s.taken i).pks.Sublist s.pks := by
  simp only [CS.taken, CS.pks]
  exact (List.Sublist.refl _).append ((List.eraseIdx_sublist _ _).map _)

theorem Net.taken {w w1 : World} {g i : Nat} {s : CS} (h : Net w g s) (hi : i < s.F.length) (hk : Kept (fun k => s.fv.ownBlock = some k) w w1)
    (ho : w1.ownsRow 0 107 5 (.slice s.fa (s.F.length - 1) s.fc) (s.F.length - 1) (flCells (s.F.eraseIdx i))) :
    Net (w1.setCell ⟨g, 1, none⟩ (.slice s.fa (s.F.length - 1) s.fc)) g (s.taken i) ∧
    Kept (Own g s) w (w1.setCell ⟨g, 1, none⟩ (.slice s.fa (s.F.length - 1) s.fc)) ∧ (∀ k, Own g (s.taken i) k → Own g s k) ∧
    ∀ p ∈ s.pks, OwnB (w1.setCell ⟨g, 1, none⟩ (.slice s.fa (s.F.length - 1) s.fc)) p.v p.bs := by
  have hgb : Blk w1 g 63 #[s.hv, s.fv, .int .i64 s.next, .map s.m, s.ev] := h.blk.kept hk fun e => ty_ne h.blk.ty (own_ty h.fly e) (by decide)
  have hgg : ∀ k, s.fa = some ⟨k, 0, none⟩ → k ≠ g := by
    rintro k hk' rfl
    exact ty_ne hgb.ty (own_ty ho (by rw [hk']; rfl)) (by decide)
  have hK : Kept (fun k => k = g ∨ s.fv.ownBlock = some k) w (w1.setCell ⟨g, 1, none⟩ (.slice s.fa (s.F.length - 1) s.fc)) :=
    (hk.mono fun _ _ e => .inr e).setCell (.inl (.inl rfl)) _
  have t0 := h.blk.ty
  have hE : (s.F.eraseIdx i).length = s.F.length - 1 := List.length_eraseIdx_of_lt hi
  have hob : ∀ p ∈ s.pks, OwnB (w1.setCell ⟨g, 1, none⟩ (.slice s.fa (s.F.length - 1) s.fc)) p.v p.bs := fun p hp => own_kept (h.own p hp) hK fun k e hT => by
      rcases hT with rfl | hT
      · exact ty_ne t0 (own_ty (h.own p hp) e) (by decide)
      · exact ty_ne (own_ty h.fly hT) (own_ty (h.own p hp) e) (by decide)
  have hsub := (taken_sub s i).subset
  have hfv : ∀ k, (s.taken i).fv.ownBlock = some k → s.fv.ownBlock = some k := by
    intro k e
    simp only [CS.taken, CS.fv] at e ⊢
    cases hf : s.fa with
    | none => rw [hf] at e; simp [Value.ownBlock] at e
    | some ad => rw [hf] at e; simpa [Value.ownBlock] using e
  refine ⟨⟨?_, ?_, ?_, ?_, ?_, ?_, ?_, ?_⟩, hK.mono ?_, ?_, hob⟩
  · have := hgb.set_ 1 (.slice s.fa (s.F.length - 1) s.fc)
    simpa [CS.taken, CS.hv, CS.fv, CS.ev, hE] using this
  · exact own_kept h.hist hK fun k e hT => by
      rcases hT with rfl | hT
      · exact ty_ne t0 (own_ty h.hist e) (by decide)
      · exact ty_ne (own_ty h.fly hT) (own_ty h.hist e) (by decide)
  · have : (w1.setCell ⟨g, 1, none⟩ (.slice s.fa (s.F.length - 1) s.fc)).ownsRow 0 107 5 (.slice s.fa (s.F.length - 1) s.fc) (s.F.length - 1) (flCells (s.F.eraseIdx i)) :=
      ownsRow_setCell_other ho (a := ⟨g, 1, none⟩) (fun e => ty_ne hgb.ty (own_ty ho e) (by decide)) _
    simpa [CS.taken, CS.fv, hE] using this
  · exact own_kept h.evs hK fun k e hT => by
      rcases hT with rfl | hT
      · exact ty_ne t0 (own_ty h.evs e) (by decide)
      · exact ty_ne (own_ty h.fly hT) (own_ty h.evs e) (by decide)
  · exact h.map.kept hK fun k e hT => by
      rcases hT with rfl | hT
      · exact ty_no t0 (h.map.ty e).1
      · exact ty_no (own_ty h.fly hT) (h.map.ty e).1
  · exact fun p hp => hob p (hsub hp)
  · exact fun p hp => h.len p (hsub hp)
  · exact h.sep.sublist ((taken_sub s i).map _)
  · rintro k _ (rfl | e)
    · exact .inl rfl
    · exact .inr (.inr (.inl e))
  · rintro k (rfl | e | e | e | e | ⟨p, hp1, e⟩)
    · exact .inl rfl
    · exact .inr (.inl e)
    · exact .inr (.inr (.inl (hfv k e)))
    · exact .inr (.inr (.inr (.inl e)))
    · exact .inr (.inr (.inr (.inr (.inl e))))
    · exact .inr (.inr (.inr (.inr (.inr ⟨p, hsub hp1, e⟩))))

/-- What take gives. -/
def Taken (g : Nat) (W : World) (s : CS) (i : Nat) (f : Fl) (e : Ending) (w' : World) : Prop :=
  e = .returned (.agg #[.string f.p.fr, .string f.p.to, f.p.v]) ∧ Step g W s w' (s.taken i) ∧ OwnB w' f.p.v f.p.bs

set_option maxHeartbeats 1600000 in
theorem take_any (g : Nat) (s : CS) (i : Nat) (f : Fl) (w : World) (h : Net w g s) (hf : s.F[i]? = some f) (hF : s.F.length ≤ 1000000) :
    Calls Try.prog 59 #[.pointer (some ⟨g, 0, none⟩), .int .i64 i] w (Taken g w s i f) := by
  obtain ⟨b, hb1, hb2, _, hcap, hi, hx⟩ := h.fly_at i f hf
  have x0 := (hx 0 (.string f.p.fr) rfl (by omega)).1
  have x1 := (hx 1 (.string f.p.to) rfl (by omega)).1
  have x2 := (hx 2 (.slice f.p.a f.p.bs.length f.p.cap) rfl (by omega)).1
  simp only [Nat.add_zero] at x0
  have c1 : w.cell? ⟨g, 1, none⟩ = some s.fv := h.blk.cell 1
  unfold CS.fv at c1
  rw [hb1] at c1
  have lg := h.blk.lt
  have HH := Lib.hid h
  have HF := Lib.hid hf
  have HB := Lib.hid hb1
  clear h hx hf hb1
  go_enter Try.func59, Try.ntmps59
  go_wp2_with fail
  have hn : Net ((w.alloc (.cells #[.string { data := #[] }, .string { data := #[] }, .slice none 0 0] 67)).alloc (.cells #[.string f.p.fr, .string f.p.to, .slice f.p.a f.p.bs.length f.p.cap] 67)) g s := (HH.out.alloc _).alloc _
  have hfly : ((w.alloc (.cells #[.string { data := #[] }, .string { data := #[] }, .slice none 0 0] 67)).alloc (.cells #[.string f.p.fr, .string f.p.to, .slice f.p.a f.p.bs.length f.p.cap] 67)).ownsRow 0 107 5 (.slice (some ⟨b, 0, none⟩) s.F.length s.fc) s.F.length (flCells s.F) := by
    have := hn.fly
    unfold CS.fv at this
    rw [HB.out] at this
    exact this
  refine (delete_any s.F _ s.fc i _ hfly hi hF).mono ?_; rintro e w2 ⟨rfl, ho, hk⟩
  have hbx : Blk w2 w.heap.size 67 #[.string { data := #[] }, .string { data := #[] }, .slice none 0 0] := ((Blk.new _ _ _).alloc _).kept hk (own_blk_ne hfly ((Blk.new _ _ _).alloc _) (by decide))
  have hby : Blk w2 (w.heap.size + 1) 67 #[.string f.p.fr, .string f.p.to, .slice f.p.a f.p.bs.length f.p.cap] := (Blk.new' _ _ _ _ (by simp)).kept hk (own_blk_ne hfly (Blk.new' _ _ _ _ (by simp)) (by decide))
  have hbg : Blk w2 g 63 #[s.hv, s.fv, .int .i64 s.next, .map s.m, s.ev] := hn.blk.kept hk (own_blk_ne hfly hn.blk (by decide))
  have hk' : Kept (fun k => s.fv.ownBlock = some k) ((w.alloc (.cells #[.string { data := #[] }, .string { data := #[] }, .slice none 0 0] 67)).alloc (.cells #[.string f.p.fr, .string f.p.to, .slice f.p.a f.p.bs.length f.p.cap] 67)) w2 := by
    unfold CS.fv
    rw [HB.out]
    exact hk
  have hT := hn.taken hi hk' (by rw [HB.out]; exact ho)
  have y0 := hbx.cell 0
  have y1 := hbx.cell 1
  have y2 := hbx.cell 2
  have z0 := hby.cell 0
  have z1 := hby.cell 1
  have z2 := hby.cell 2
  have d1 : w2.cell? ⟨g, 1, none⟩ = some s.fv := hbg.cell 1
  have g0 := hbx.frozen 0
  have g1 := hbx.frozen 1
  have g2 := hbx.frozen 2
  have k1 := hbg.frozen 1
  have lx := hbx.lt
  have ly := hby.lt
  have l3 := hbg.lt
  have hne : g ≠ w.heap.size := by omega
  have hne2 : g ≠ w.heap.size + 1 := by omega
  simp at y0 y1 y2 z0 z1 z2
  rw [HB.out] at hT
  have HT := Lib.hid hT
  clear hn hfly hk ho hbx hby hbg hk' hT
  go_wp2_with fail
  have hm : f.p ∈ s.pks := List.mem_append_right _ (List.mem_map_of_mem (List.mem_of_getElem? HF.out))
  have HK := ((((Kept.refl (fun k => k = w.heap.size) (w2.setCell ⟨g, 1, none⟩ (.slice (some ⟨b, 0, none⟩) (s.F.length - 1) s.fc))).setCell (p := ⟨w.heap.size, 0, none⟩) (.inl rfl) (.string f.p.fr)).setCell (p := ⟨w.heap.size, 1, none⟩) (.inl rfl) (.string f.p.to)).setCell (p := ⟨w.heap.size, 2, none⟩) (.inl rfl) (.slice f.p.a f.p.bs.length f.p.cap))
  refine bodyPost_ret (v := .agg #[.string f.p.fr, .string f.p.to, .slice f.p.a f.p.bs.length f.p.cap]) (by simp [results, Try.results59, go_sem, y0, y1, y2]) rfl ⟨rfl, ⟨?_, ?_, ?_⟩, ?_⟩
  · exact HT.out.1.kept HK fun k hk e => by
      have := Own.lt HH.out (HT.out.2.2.1 k hk)
      omega
  · exact ((((Kept.refl _ w).alloc _).alloc _).trans HT.out.2.1).trans' HK fun k hk e => by omega
  · exact fun k hk => .inl (HT.out.2.2.1 k hk)
  · exact own_kept (HT.out.2.2.2 f.p hm) HK fun k hk e => by
      have := own_lt (HH.out.own f.p hm) hk
      omega

end Go.Proofs.Yticnklmpplicfaa
