/- The contract of note: an event is appended. -/
import Derived.Test.YticnklmpplicfaaNC
namespace Go.Proofs.Yticnklmpplicfaa
open Go.RowKit

theorem ty_ne {w : World} {k : Nat} {a b : TypeId} (h : tyAt w k = some a) (h' : tyAt w k = some b) (hne : a ≠ b) : False := hne (by rw [h] at h'; injection h')
theorem ty_no {w : World} {k : Nat} {a : TypeId} (h : tyAt w k = some a) (h' : tyAt w k = none) : False := by rw [h] at h'; cases h'

def CS.noted (s : CS) (x : Ev) (a : Option Addr) (c : Nat) : CS := { s with ea := a, ec := c, E := s.E ++ [x] }

theorem Net.noted {w w1 : World} {g gg cap : Nat} {s : CS} {x : Ev} (h : Net w g s) (hk : Kept (fun k => s.ev.ownBlock = some k) w w1)
    (ho : w1.ownsRow 0 88 3 (.slice (some ⟨gg, 0, none⟩) (s.E.length + 1) cap) (s.E.length + 1) (evCells s.E ++ x.cells)) (hat : s.ev.ownBlock = some gg ∨ w.heap.size ≤ gg) :
    Step g w s (w1.setCell ⟨g, 4, none⟩ (.slice (some ⟨gg, 0, none⟩) (s.E.length + 1) cap)) (s.noted x (some ⟨gg, 0, none⟩) cap) := by
  have hgb : Blk w1 g 63 #[s.hv, s.fv, .int .i64 s.next, .map s.m, s.ev] := h.blk.kept hk fun e => ty_ne h.blk.ty (own_ty h.evs e) (by decide)
  have hgg : gg ≠ g := by
    rintro rfl
    exact ty_ne hgb.ty (own_ty ho rfl) (by decide)
  have hK : Kept (fun k => k = g ∨ s.ev.ownBlock = some k) w (w1.setCell ⟨g, 4, none⟩ (.slice (some ⟨gg, 0, none⟩) (s.E.length + 1) cap)) :=
    (hk.mono fun _ _ e => .inr e).setCell (.inl (.inl rfl)) _
  have t0 := h.blk.ty
  refine ⟨⟨?_, ?_, ?_, ?_, ?_, ?_, h.len, h.sep⟩, hK.mono ?_, ?_⟩
  · have := hgb.set_ 4 (.slice (some ⟨gg, 0, none⟩) (s.E.length + 1) cap)
    simpa [CS.noted, CS.hv, CS.fv, CS.ev] using this
  · exact own_kept h.hist hK fun k e hT => by
      rcases hT with rfl | hT
      · exact ty_ne t0 (own_ty h.hist e) (by decide)
      · exact ty_ne (own_ty h.evs hT) (own_ty h.hist e) (by decide)
  · exact own_kept h.fly hK fun k e hT => by
      rcases hT with rfl | hT
      · exact ty_ne t0 (own_ty h.fly e) (by decide)
      · exact ty_ne (own_ty h.evs hT) (own_ty h.fly e) (by decide)
  · have := ownsRow_setCell_other ho (a := ⟨g, 4, none⟩) (by simp [Value.ownBlock]; exact hgg) (.slice (some ⟨gg, 0, none⟩) (s.E.length + 1) cap)
    simpa [CS.noted, CS.ev, evCells_snoc] using this
  · exact h.map.kept hK fun k e hT => by
      rcases hT with rfl | hT
      · exact ty_no t0 (h.map.ty e).1
      · exact ty_no (own_ty h.evs hT) (h.map.ty e).1
  · exact fun p hp => own_kept (h.own p hp) hK fun k e hT => by
      rcases hT with rfl | hT
      · exact ty_ne t0 (own_ty (h.own p hp) e) (by decide)
      · exact ty_ne (own_ty h.evs hT) (own_ty (h.own p hp) e) (by decide)
  · rintro k _ (rfl | e)
    · exact .inl rfl
    · exact .inr (.inr (.inr (.inl e)))
  · rintro k (rfl | e | e | e | e | ⟨p, hp, e⟩)
    · exact .inl (.inl rfl)
    · exact .inl (.inr (.inl e))
    · exact .inl (.inr (.inr (.inl e)))
    · have : gg = k := by simpa [CS.noted, CS.ev, Value.ownBlock] using e
      subst this
      exact hat.imp (fun e => .inr (.inr (.inr (.inl e)))) id
    · exact .inl (.inr (.inr (.inr (.inr (.inl e)))))
    · exact .inl (.inr (.inr (.inr (.inr (.inr ⟨p, hp, e⟩)))))

theorem ev_one (x : Ev) : ∀ u ∈ x.cells, u.oneCell' = true := by
  intro u hu
  simp only [Ev.cells, List.mem_cons, List.not_mem_nil, or_false] at hu
  rcases hu with rfl | rfl | rfl <;> rfl
theorem pk_one (x : Pk) : ∀ u ∈ x.cells, u.oneCell' = true := by
  intro u hu
  simp only [Pk.cells, List.mem_cons, List.not_mem_nil, or_false] at hu
  rcases hu with rfl | rfl | rfl <;> rfl
theorem fl_one (x : Fl) : ∀ u ∈ x.cells, u.oneCell' = true := by
  intro u hu
  simp only [Fl.cells, List.mem_cons, List.not_mem_nil, or_false] at hu
  rcases hu with rfl | rfl | rfl | rfl | rfl <;> rfl

/-- What note gives. -/
def Noted (g : Nat) (W : World) (s : CS) (x : Ev) (e : Ending) (w' : World) : Prop := e = .returned (.tuple #[]) ∧ ∃ a c, Step g W s w' (s.noted x a c)

set_option maxHeartbeats 800000 in
theorem note_any (g : Nat) (s : CS) (k id fr : Int) (w : World) (h : Net w g s) (hn : s.E.length ≤ 1000000) :
    Calls Try.prog 57 #[.pointer (some ⟨g, 0, none⟩), .int .i64 k, .int .i64 id, .int .i64 fr] w (Noted g w s ⟨k, id, fr⟩) := by
  obtain ⟨i0, hi0, hz0, hz1, hz2⟩ := info_parts Try.info88
  have c4 : w.cell? ⟨g, 4, none⟩ = some s.ev := h.blk.cell 4
  have lg := h.blk.lt
  have he := h.evs.alloc (.cells #[.int .i64 k, .int .i64 id, .int .i64 fr] 88)
  have HH := Lib.hid h
  have HE := Lib.hid he
  clear h he
  unfold CS.ev at c4
  go_enter Try.func57, Try.ntmps57
  go_wp2_with (at_builtin; refine wpList_append_lies _ rfl _ _ 61 rfl 0 88 i0 _ 3 24 Try.underlying61 hi0 hz0 hz1 hz2 rfl ?_ s.ev s.E.length (evCells s.E) ?_ HE.out ⟨w.heap.size, 0, none⟩ 1 1 (Ev.cells ⟨k, id, fr⟩) ?_ ?_ ?_ ?_ ?_ ?_ ?_ ?_ _ rfl ?_)
  · omega
  · rfl
  · rfl
  · rfl
  · exact World.news_of_block (cs := #[.int .i64 k, .int .i64 id, .int .i64 fr]) (t := 88) (fr := (0, 0)) (heap_alloc_new w _)
  · exact ev_one _
  · omega
  · unfold maxLen; omega
  · omega
  · exact Nat.zero_le _
  · intro gg cap w1 hown1 hg1 hat hlt
    have hN := HH.out.alloc (.cells #[.int .i64 k, .int .i64 id, .int .i64 fr] 88)
    have hK : Kept (fun k => s.ev.ownBlock = some k) (w.alloc (.cells #[.int .i64 k, .int .i64 id, .int .i64 fr] 88)) w1 :=
      ⟨hg1.os, hg1.tape, hg1.output, hg1.size, fun i hi hn => hg1.block i hi fun e => hn e.symm⟩
    have hB : Blk w1 g 63 #[s.hv, s.fv, .int .i64 s.next, .map s.m, s.ev] := hN.blk.kept hK fun e => ty_ne hN.blk.ty (own_ty hN.evs e) (by decide)
    have d4 := hB.cell 4
    have f4 := hB.frozen 4
    have l4 := hB.lt
    simp at d4
    have hS := hN.noted hK hown1 (hat.imp (fun e => e) (fun e => by simp; omega))
    have HS := Lib.hid hS
    clear hN hK hB hS hown1 hg1 hat
    go_wp2_with fail
    go_end0
    exact ⟨rfl, _, _, HS.out.pre (nbelow1 _ _)⟩

end Go.Proofs.Yticnklmpplicfaa
