/- The contract of Flight. -/
import Derived.Test.YticnklmpplicfaaNX
namespace Go.Proofs.Yticnklmpplicfaa
open Go.RowKit

/-- What stands in the copy after k rounds. -/
structure FlI (w : World) (s : CS) (k : Nat) (F' : List Fl) (a : Option Addr) (c : Nat) (wr : World) : Prop where
  below : Below w.heap.size w wr
  blk : Blk wr w.heap.size 59 #[.slice a k c]
  row : wr.ownsRow 0 107 5 (.slice a k c) k (flCells F')
  num : F'.length = k
  ids : F'.map Fl.id = (s.F.take k).map Fl.id
  own : ∀ f ∈ F', OwnB wr f.p.v f.p.bs
  len : ∀ f ∈ F', f.p.bs.length ≤ 65536
  far : ∀ q, (Value.slice a k c).ownBlock = some q → w.heap.size ≤ q

/-- What Flight gives: a function over a copy of the row. -/
def Gives37 (W : World) (s : CS) (e : Ending) (w' : World) : Prop :=
  ∃ B a c F', e = .returned (.func (.func 63) #[] #[.pointer (some ⟨B, 0, none⟩)]) ∧ Blk w' B 59 #[.slice a s.F.length c] ∧ w'.ownsRow 0 107 5 (.slice a s.F.length c) s.F.length (flCells F') ∧ Below W.heap.size W w' ∧
    F'.length = s.F.length ∧ F'.map Fl.id = s.F.map Fl.id ∧ (∀ f ∈ F', OwnB w' f.p.v f.p.bs) ∧ (∀ f ∈ F', f.p.bs.length ≤ 65536)

theorem fl_kept {wr w2 : World} {B : Nat} {o1 o2 : Obj} {u0 u1 u2 : Value}
    (hB : B = wr.heap.size) (hb : Below (wr.alloc o1).heap.size (wr.alloc o1) w2) : Kept (fun _ => False) wr ((((w2.setCell ⟨B, 0, none⟩ u0).setCell ⟨B, 1, none⟩ u1).setCell ⟨B, 2, none⟩ u2).alloc o2) :=
  ((((((Kept.refl _ wr).alloc o1).trans (Kept.of_below hb)).setCell (p := ⟨B, 0, none⟩) (.inr (by simp; omega)) u0).setCell (p := ⟨B, 1, none⟩) (.inr (by simp; omega)) u1).setCell (p := ⟨B, 2, none⟩) (.inr (by simp; omega)) u2).alloc o2
theorem fl_row {w wr w2 : World} {s : CS} {k B c : Nat} {F' : List Fl} {a : Option Addr} {o1 o2 : Obj} {u0 u1 u2 : Value} (I : FlI w s k F' a c wr)
    (hB : B = wr.heap.size) (hb : Below (wr.alloc o1).heap.size (wr.alloc o1) w2) :
    ((((w2.setCell ⟨B, 0, none⟩ u0).setCell ⟨B, 1, none⟩ u1).setCell ⟨B, 2, none⟩ u2).alloc o2).ownsRow 0 107 5 (.slice a k c) k (flCells F') :=
  own_kept I.row (fl_kept hB hb) (fun _ _ h => h)

theorem fl_next {w wr w2 w3 : World} {s : CS} {k B gg cap c c1 : Nat} {F' : List Fl} {a a1 : Option Addr} {f : Fl} {o1 o2 : Obj} {u0 u1 u2 : Value} (I : FlI w s k F' a c wr) (hf : s.F[k]? = some f) (hlen : f.p.bs.length ≤ 65536)
    (hB : B = wr.heap.size) (hb : Below (wr.alloc o1).heap.size (wr.alloc o1) w2) (ho : OwnB w2 (.slice a1 f.p.bs.length c1) f.p.bs) (hfr : ∀ k, (Value.slice a1 f.p.bs.length c1).ownBlock = some k → (wr.alloc o1).heap.size ≤ k)
    (hg : ((((w2.setCell ⟨B, 0, none⟩ u0).setCell ⟨B, 1, none⟩ u1).setCell ⟨B, 2, none⟩ u2).alloc o2).grownBy w3 (Value.slice a k c).ownBlock)
    (hat : (Value.slice a k c).ownBlock = some gg ∨ gg = w2.heap.size + 1)
    (hown : w3.ownsRow 0 107 5 (.slice (some ⟨gg, 0, none⟩) (k + 1) cap) (k + 1) (flCells F' ++ Fl.cells ⟨⟨f.p.fr, f.p.to, a1, c1, f.p.bs⟩, f.id, f.src⟩)) :
    FlI w s (k + 1) (F' ++ [⟨⟨f.p.fr, f.p.to, a1, c1, f.p.bs⟩, f.id, f.src⟩]) (some ⟨gg, 0, none⟩) cap (w3.setCell ⟨w.heap.size, 0, none⟩ (.slice (some ⟨gg, 0, none⟩) (k + 1) cap)) ∧ Blk w3 w.heap.size 59 #[.slice a k c] := by
  have hK := fl_kept (o2 := o2) (u0 := u0) (u1 := u1) (u2 := u2) hB hb
  have hG : Kept (fun q => (Value.slice a k c).ownBlock = some q) ((((w2.setCell ⟨B, 0, none⟩ u0).setCell ⟨B, 1, none⟩ u1).setCell ⟨B, 2, none⟩ u2).alloc o2) w3 := ⟨hg.os, hg.tape, hg.output, hg.size, fun i hi hn => hg.block i hi fun e => hn e.symm⟩
  have hK3 := (hK.mono (T := fun q => (Value.slice a k c).ownBlock = some q) (fun _ _ h => h.elim)).trans hG
  have hz : w.heap.size < wr.heap.size := I.blk.lt
  have hz2 : wr.heap.size + 1 ≤ w2.heap.size := by have := hb.size; simpa using this
  have hB3 : Blk w3 w.heap.size 59 #[.slice a k c] := I.blk.kept hK3 fun e => ty_ne I.blk.ty (own_ty I.row e) (by decide)
  have hgg : w.heap.size ≤ gg := by
    rcases hat with e | e
    · exact I.far gg e
    · omega
  have hne : w.heap.size ≠ gg := fun e => by
    subst e
    exact ty_ne hB3.ty (own_ty hown rfl) (by decide)
  refine ⟨⟨?_, ?_, ?_, ?_, ?_, ?_, ?_, ?_⟩, hB3⟩
  · have h3 : Below w.heap.size w w3 := I.below.trans (hK3.below (by omega) fun q hq => I.far q hq)
    exact h3.setCell (by simp) _
  · have := hB3.set_ 0 (.slice (some ⟨gg, 0, none⟩) (k + 1) cap)
    simpa using this
  · rw [flCells_snoc]
    exact ownsRow_setCell_other hown (a := ⟨w.heap.size, 0, none⟩) (by simp [Value.ownBlock]; omega) _
  · simp [I.num]
  · rw [List.map_append, I.ids, List.take_add_one, hf]
    simp
  · intro x hx
    rcases List.mem_append.1 hx with hx | hx
    · have o3 := own_kept (I.own x hx) hK3 fun q e e' => ty_ne (own_ty I.row e') (own_ty (I.own x hx) e) (by decide)
      exact own_kept o3 ((Kept.refl (fun q => q = w.heap.size) w3).setCell (p := ⟨w.heap.size, 0, none⟩) (.inl rfl) _) fun q e e' => by
        subst e'
        exact ty_ne hB3.ty (own_ty o3 e) (by decide)
    · simp at hx
      subst hx
      have o2' := own_kept (S := fun q => q = B) ho (((((Kept.refl (fun q => q = B) w2).setCell (p := ⟨B, 0, none⟩) (.inl rfl) u0).setCell (p := ⟨B, 1, none⟩) (.inl rfl) u1).setCell (p := ⟨B, 2, none⟩) (.inl rfl) u2).alloc o2) fun q e e' => by
        have := hfr q e
        simp at this
        omega
      have o3 := own_kept o2' hG fun q e e' => by
        have h1 := hfr q e
        have h2 := own_lt I.row e'
        simp at h1
        omega
      exact own_kept o3 ((Kept.refl (fun q => q = w.heap.size) w3).setCell (p := ⟨w.heap.size, 0, none⟩) (.inl rfl) _) fun q e e' => by
        have h1 := hfr q e
        simp at h1
        omega
  · intro x hx
    rcases List.mem_append.1 hx with hx | hx
    · exact I.len x hx
    · simp at hx
      subst hx
      exact hlen
  · intro q e
    have : gg = q := by simpa [Value.ownBlock] using e
    omega

set_option maxHeartbeats 1600000 in
set_option maxRecDepth 20000 in
theorem flight_any (g : Nat) (s : CS) (w : World) (h : Net w g s) (hF : s.F.length ≤ 100000) :
    Calls Try.prog 37 #[.pointer (some ⟨g, 0, none⟩)] w (Gives37 w s) := by
  obtain ⟨i0, hi0, hz0, hz1, hz2⟩ := info_parts Try.info107
  have b1 : w.cell? ⟨g, 1, none⟩ = some s.fv := h.blk.cell 1
  have l1 := h.blk.lt
  unfold CS.fv at b1
  have HH := Lib.hid h
  have hw : IntKind.i64.wrap (s.F.length : Int) = (s.F.length : Int) := by rw [IntKind.wrap_i64]; omega
  clear h
  go_enter Try.func37, Try.ntmps37
  go_wp2_with fail
  go_loopg [5, 13] s.F.length (fun gg _ s13 wr => ∃ (k : Nat) (F' : List Fl) (a : Option Addr) (c : Nat), k ≤ s.F.length ∧ s.F.length - k ≤ gg ∧ s13 = .int .i64 k ∧ Aside (FlI w s k F' a c wr))
  case atStart =>
    exact ⟨0, [], none, 0, Nat.zero_le _, by omega, rfl, ⟨nbelow1 _ _, Blk.new _ _ _, ⟨rfl, .inl ⟨rfl, rfl⟩⟩, rfl, rfl, (fun f hf => by cases hf), (fun f hf => by cases hf), fun q e => by cases e⟩⟩
  case round =>
    obtain ⟨k, F', a, c, hk, hgg, rfl, I⟩ := hrel
    by_cases hlt : k < s.F.length
    · have hltz : (k : Int) < (s.F.length : Int) := by omega
      obtain ⟨f, hf⟩ : ∃ f, s.F[k]? = some f := ⟨_, List.getElem?_eq_getElem hlt⟩
      have hm : f.p ∈ s.pks := List.mem_append_right _ (List.mem_map_of_mem (List.mem_of_getElem? hf))
      have hN := HH.out.below I.out.below
      obtain ⟨b, hb1, hb2, _, hcap, hi, hx⟩ := hN.fly_at k f hf
      have x0 := (hx 0 (.string f.p.fr) rfl (by omega)).1
      have x1 := (hx 1 (.string f.p.to) rfl (by omega)).1
      have x2 := (hx 2 (.slice f.p.a f.p.bs.length f.p.cap) rfl (by omega)).1
      have x3 := (hx 3 (.int .i64 f.id) rfl (by omega)).1
      have x4 := (hx 4 (.int .i64 f.src) rfl (by omega)).1
      simp only [Nat.add_zero] at x0
      have hrd := Lib.hid ((hN.own f.p hm).rd.alloc (.cells #[.string f.p.fr, .string f.p.to, .slice f.p.a f.p.bs.length f.p.cap, .int .i64 f.id, .int .i64 f.src] 107))
      have hlen := hN.len f.p hm
      have hkw : IntKind.i64.wrap ((k : Int) + 1) = (k : Int) + 1 := by rw [IntKind.wrap_i64]; omega
      have HF := Lib.hid hf
      rw [hb1]
      clear hN hx hm hf
      go_wp2_with fail
      refine (clone_any _ _ _ _ _ hrd.out hlen).mono ?_
      rintro e w2 ⟨a1, c1, rfl, ho, hb, hfr⟩
      have hbx : Blk w2 wr.heap.size 107 #[.string f.p.fr, .string f.p.to, .slice f.p.a f.p.bs.length f.p.cap, .int .i64 f.id, .int .i64 f.src] := (Blk.new _ _ _).below hb (by simp)
      have hby : Blk w2 w.heap.size 59 #[.slice a k c] := ((I.out.blk).alloc _).below hb (by have := I.out.blk.lt; simp; omega)
      have y0 := hbx.cell 0
      have y1 := hbx.cell 1
      have y2 := hbx.cell 2
      have y3 := hbx.cell 3
      have y4 := hbx.cell 4
      have q0 := hbx.frozen 0
      have q1 := hbx.frozen 1
      have q2 := hbx.frozen 2
      have z0 := hby.cell 0
      have ly := hbx.lt
      have lz := hby.lt
      simp at y0 y1 y2 y3 y4 z0
      have hne : w.heap.size ≠ wr.heap.size := by have := I.out.blk.lt; omega
      have HO := Lib.hid ho
      have HB := Lib.hid hb
      have HFR := Lib.hid hfr
      clear ho hb hfr hbx hby
      go_wp2_with (at_builtin; refine wpList_append_lies _ rfl _ _ 59 rfl 0 107 i0 _ 5 72 Try.underlying59 hi0 hz0 hz1 hz2 rfl ?_ (.slice a k c) k (flCells F') ?_ ?_ ⟨w2.heap.size, 0, none⟩ 1 1 (Fl.cells ⟨⟨f.p.fr, f.p.to, a1, c1, f.p.bs⟩, f.id, f.src⟩) ?_ ?_ ?_ ?_ ?_ ?_ ?_ ?_ _ rfl ?_)
      · omega
      · rfl
      · exact fl_row I.out rfl HB.out
      · rfl
      · rfl
      · exact World.news_of_block (cs := #[.string f.p.fr, .string f.p.to, .slice a1 f.p.bs.length c1, .int .i64 f.id, .int .i64 f.src]) (t := 107) (fr := (0, 0)) (Blk.new' _ _ _ _ (by simp))
      · exact fl_one _
      · omega
      · unfold maxLen; omega
      · omega
      · exact Nat.zero_le _
      · intro gg cap w3 hown3 hg3 hat hlt3
        have hx := fl_next I.out HF.out hlen rfl HB.out HO.out HFR.out hg3 hat hown3
        have e0 := hx.2.cell 0
        have e1 := hx.2.frozen 0
        have e2 := hx.2.lt
        simp at e0
        have HX : Aside _ := hx.1
        clear hx hown3 hg3 hat hlt3
        go_wp2_with fail
        rw [← hb1]
        go_roundg (s.F.length - (k + 1))
        case measure => omega
        case rel => exact ⟨k + 1, _, _, _, by omega, by omega, by go_num, HX⟩
    · obtain rfl : k = s.F.length := by omega
      have hltz : ¬ (s.F.length : Int) < (s.F.length : Int) := by omega
      go_wp2_with fail
      refine bodyPost_ret (v := .func (.func 63) #[] #[.pointer (some ⟨w.heap.size, 0, none⟩)]) (by simp [results, Try.results37, go_sem]) rfl ⟨w.heap.size, a, c, F', rfl, I.out.blk, I.out.row, I.out.below, I.out.num, ?_, I.out.own, I.out.len⟩
      have := I.out.ids
      rwa [List.take_length] at this

end Go.Proofs.Yticnklmpplicfaa
