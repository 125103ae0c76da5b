/- The contracts of Alter and Redirect. -/
import Derived.Test.YticnklmpplicfaaNL
namespace Go.Proofs.Yticnklmpplicfaa
open Go.RowKit

def CS.fset (s : CS) (j : Nat) (f : Fl) : CS := { s with F := s.F.set j f }
def Fl.alter (f : Fl) (i : Nat) (y : Int) : Fl := ⟨{ f.p with bs := f.p.bs.set i y }, f.id, f.src⟩
def Fl.redirect (f : Fl) (t : ByteArray) : Fl := ⟨{ f.p with to := t }, f.id, f.src⟩

theorem split_at {α : Type} {l : List α} {j : Nat} {x : α} (h : l[j]? = some x) : ∃ A B, l = A ++ x :: B ∧ j = A.length ∧ ∀ y, l.set j y = A ++ y :: B := by
  have hj := (List.getElem?_eq_some_iff.1 h).1
  have hx := (List.getElem?_eq_some_iff.1 h).2
  have e : l = l.take j ++ x :: l.drop (j + 1) := by
    conv => lhs; rw [← List.take_append_drop j l]
    rw [List.drop_eq_getElem_cons hj, hx]
  have hl : j = (l.take j).length := by rw [List.length_take]; omega
  refine ⟨_, _, e, hl, fun y => ?_⟩
  rw [List.set_eq_take_append_cons_drop, if_pos hj]

theorem own_set {w : World} {e : TypeId} {size n i b c : Nat} {xs : List Value} (h : w.ownsRow 0 e size (.slice (some ⟨b, 0, none⟩) n c) n xs) (u : Value) :
    (w.setCell ⟨b, i, none⟩ u).ownsRow 0 e size (.slice (some ⟨b, 0, none⟩) n c) n (xs.set i u) := by
  rcases h.2 with ⟨e1, h0⟩ | ⟨g, cap, cur, e1, hb, hg, hc, hm, hs, hx⟩
  · cases e1
  · have hbg : b = g := by injection e1 with e1; injection e1 with e1; injection e1
    have hcc : c = cap := by injection e1
    subst hbg hcc
    refine ⟨by rw [List.length_set]; exact h.1, .inr ⟨b, c, cur.setIfInBounds i u, rfl, hb, ?_, hc, hm, by simpa using hs, ?_⟩⟩
    · simp [World.setCell, Array.getElem?_modify, hg]
    · rw [Array.toList_setIfInBounds, List.take_set, hx]

theorem Net.altered {w : World} {g j i k : Nat} {s : CS} {f : Fl} (h : Net w g s) (hf : s.F[j]? = some f) (ha : f.p.a = some ⟨k, 0, none⟩) (y : Int) :
    Step g w s (w.setCell ⟨k, i, none⟩ (.int .u8 y)) (s.fset j (f.alter i y)) := by
  obtain ⟨A, B, hF, rfl, hset⟩ := split_at hf
  have hm : f.p ∈ s.pks := List.mem_append_right _ (List.mem_map_of_mem (List.mem_of_getElem? hf))
  have hown := h.own _ hm
  have hok : f.p.v.ownBlock = some k := by simp [Pk.v, ha, Value.ownBlock]
  have hty : tyAt w k = some 5 := own_ty hown hok
  have hK : Kept (fun q => q = k) w (w.setCell ⟨k, i, none⟩ (.int .u8 y)) := (Kept.refl (fun q => q = k) w).setCell (p := ⟨k, i, none⟩) (.inl rfl) _
  have hF' : (s.fset A.length (f.alter i y)).F = A ++ f.alter i y :: B := hset _
  have hlen : (s.fset A.length (f.alter i y)).F.length = s.F.length := by simp [CS.fset]
  have hvv : (f.alter i y).p.v = f.p.v := by simp [Fl.alter, Pk.v]
  have hcells : flCells (s.fset A.length (f.alter i y)).F = flCells s.F := by
    rw [hF', hF]
    simp only [flCells, List.flatMap_append, List.flatMap_cons]
    have : (f.alter i y).cells = f.cells := by simp [Fl.cells, hvv]; simp [Fl.alter]
    rw [this]
  have hfv : (s.fset A.length (f.alter i y)).fv = s.fv := by simp only [CS.fv]; rw [hlen]; rfl
  have hpv : (s.fset A.length (f.alter i y)).pks.map Pk.v = s.pks.map Pk.v := by
    simp only [CS.pks, List.map_append, List.map_map]
    rw [hF', hF]
    simp [hvv, CS.fset]
  have hsep := h.sep
  have hpks : s.pks = (s.H ++ A.map Fl.p) ++ f.p :: B.map Fl.p := by simp [CS.pks, hF]
  have hother : ∀ q ∈ (s.H ++ A.map Fl.p) ++ B.map Fl.p, ∀ m, q.v.ownBlock = some m → ¬ m = k := by
    rw [hpks, List.map_append, List.map_cons, List.pairwise_append, List.pairwise_cons] at hsep
    intro q hq m hqm e
    subst e
    rcases List.mem_append.1 hq with hq | hq
    · exact hsep.2.2 _ (List.mem_map_of_mem hq) _ List.mem_cons_self m hqm hok
    · exact hsep.2.1.1 _ (List.mem_map_of_mem hq) m hok hqm
  have hpk : ∀ p ∈ (s.fset A.length (f.alter i y)).pks, p = (f.alter i y).p ∨ p ∈ (s.H ++ A.map Fl.p) ++ B.map Fl.p := by
    intro p hp
    have : (s.fset A.length (f.alter i y)).pks = (s.H ++ A.map Fl.p) ++ (f.alter i y).p :: B.map Fl.p := by
      simp only [CS.pks]; rw [hF']; simp [CS.fset]
    rw [this] at hp
    simp only [List.mem_append, List.mem_cons] at hp ⊢
    rcases hp with hp | hp | hp
    · exact .inr (.inl hp)
    · exact .inl hp
    · exact .inr (.inr hp)
  have hsub : ∀ p ∈ (s.H ++ A.map Fl.p) ++ B.map Fl.p, p ∈ s.pks := by
    intro p hp
    rw [hpks]
    simp only [List.mem_append, List.mem_cons] at hp ⊢
    rcases hp with hp | hp
    · exact .inl hp
    · exact .inr (.inr hp)
  refine ⟨⟨?_, ?_, ?_, ?_, ?_, ?_, ?_, ?_⟩, hK.mono ?_, ?_⟩
  · rw [hfv]
    exact h.blk.kept hK fun e => by subst e; exact ty_ne h.blk.ty hty (by decide)
  · exact own_kept h.hist hK fun q e hT => by subst hT; exact ty_ne (own_ty h.hist e) hty (by decide)
  · rw [hfv, hlen, hcells]
    exact own_kept h.fly hK fun q e hT => by subst hT; exact ty_ne (own_ty h.fly e) hty (by decide)
  · exact own_kept h.evs hK fun q e hT => by subst hT; exact ty_ne (own_ty h.evs e) hty (by decide)
  · exact h.map.kept hK fun q e hT => by subst hT; exact ty_no hty (h.map.ty e).1
  · intro p hp
    rcases hpk p hp with rfl | hp
    · show OwnB _ (f.alter i y).p.v (f.p.bs.set i y)
      rw [hvv]
      have h1 : OwnB w (.slice (some ⟨k, 0, none⟩) f.p.bs.length f.p.cap) f.p.bs := by
        have := hown; unfold Pk.v at this; rw [ha] at this; exact this
      have h2 := own_set (i := i) h1 (.int .u8 y)
      unfold OwnB Pk.v
      rw [ha, List.length_set, show u8s (f.p.bs.set i y) = (u8s f.p.bs).set i (.int .u8 y) by simp [u8s, List.map_set]]
      exact h2
    · exact own_kept (h.own p (hsub p hp)) hK fun q e hT => hother p hp q e hT
  · intro p hp
    rcases hpk p hp with rfl | hp
    · show (f.p.bs.set i y).length ≤ _
      rw [List.length_set]
      exact h.len _ hm
    · exact h.len p (hsub p hp)
  · rw [hpv]; exact h.sep
  · rintro q _ rfl
    exact .inr (.inr (.inr (.inr (.inr ⟨_, hm, hok⟩))))
  · rintro q (rfl | e | e | e | e | ⟨p, hp1, e⟩)
    · exact .inl (.inl rfl)
    · exact .inl (.inr (.inl e))
    · rw [hfv] at e
      exact .inl (.inr (.inr (.inl e)))
    · exact .inl (.inr (.inr (.inr (.inl e))))
    · exact .inl (.inr (.inr (.inr (.inr (.inl e)))))
    · rcases hpk p hp1 with rfl | hp
      · rw [hvv] at e
        exact .inl (.inr (.inr (.inr (.inr (.inr ⟨_, hm, e⟩)))))
      · exact .inl (.inr (.inr (.inr (.inr (.inr ⟨_, hsub p hp, e⟩)))))

theorem Net.redirected {w : World} {g j b : Nat} {s : CS} {f : Fl} (h : Net w g s) (hf : s.F[j]? = some f) (ha : s.fa = some ⟨b, 0, none⟩) (t : ByteArray) :
    Step g w s (w.setCell ⟨b, j * 5 + 1, none⟩ (.string t)) (s.fset j (f.redirect t)) := by
  obtain ⟨A, B, hF, rfl, hset⟩ := split_at hf
  have hok : s.fv.ownBlock = some b := by simp [CS.fv, ha, Value.ownBlock]
  have hty : tyAt w b = some 107 := own_ty h.fly hok
  have hK : Kept (fun q => q = b) w (w.setCell ⟨b, A.length * 5 + 1, none⟩ (.string t)) := (Kept.refl (fun q => q = b) w).setCell (p := ⟨b, A.length * 5 + 1, none⟩) (.inl rfl) _
  have hF' : (s.fset A.length (f.redirect t)).F = A ++ f.redirect t :: B := hset _
  have hlen : (s.fset A.length (f.redirect t)).F.length = s.F.length := by simp [CS.fset]
  have hcells : flCells (s.fset A.length (f.redirect t)).F = (flCells s.F).set (A.length * 5 + 1) (.string t) := by
    rw [hF', hF]
    simp only [flCells, List.flatMap_append, List.flatMap_cons]
    have hl : (A.flatMap Fl.cells).length = A.length * 5 := flCells_len A
    rw [List.set_append_right _ _ (by omega), hl, show A.length * 5 + 1 - A.length * 5 = 1 by omega]
    rfl
  have hfv : (s.fset A.length (f.redirect t)).fv = s.fv := by simp only [CS.fv]; rw [hlen]; rfl
  have hpv : (s.fset A.length (f.redirect t)).pks.map (fun p => (p.v, p.bs)) = s.pks.map (fun p => (p.v, p.bs)) := by
    simp only [CS.pks, List.map_append, List.map_map]
    rw [hF', hF]
    simp [CS.fset, Fl.redirect, Pk.v]
  have hpk : ∀ p ∈ (s.fset A.length (f.redirect t)).pks, ∃ p' ∈ s.pks, p'.v = p.v ∧ p'.bs = p.bs := by
    intro p hp
    have := List.mem_map_of_mem (f := fun p : Pk => (p.v, p.bs)) hp
    rw [hpv] at this
    obtain ⟨p', h1, h2⟩ := List.mem_map.1 this
    exact ⟨p', h1, congrArg Prod.fst h2, congrArg Prod.snd h2⟩
  have hpv1 : (s.fset A.length (f.redirect t)).pks.map Pk.v = s.pks.map Pk.v := by
    have := congrArg (List.map Prod.fst) hpv
    rw [List.map_map, List.map_map] at this
    exact this
  refine ⟨⟨?_, ?_, ?_, ?_, ?_, ?_, ?_, ?_⟩, hK.mono ?_, ?_⟩
  · rw [hfv]
    exact h.blk.kept hK fun e => by subst e; exact ty_ne h.blk.ty hty (by decide)
  · exact own_kept h.hist hK fun q e hT => by subst hT; exact ty_ne (own_ty h.hist e) hty (by decide)
  · rw [hfv, hlen, hcells]
    have h1 := h.fly
    unfold CS.fv at h1 ⊢
    rw [ha] at h1 ⊢
    exact own_set h1 _
  · exact own_kept h.evs hK fun q e hT => by subst hT; exact ty_ne (own_ty h.evs e) hty (by decide)
  · exact h.map.kept hK fun q e hT => by subst hT; exact ty_no hty (h.map.ty e).1
  · intro p hp
    obtain ⟨p', h1, h2, h3⟩ := hpk p hp
    rw [← h2, ← h3]
    exact own_kept (h.own p' h1) hK fun q e hT => by subst hT; exact ty_ne (own_ty (h.own p' h1) e) hty (by decide)
  · intro p hp
    obtain ⟨p', h1, h2, h3⟩ := hpk p hp
    rw [← h3]
    exact h.len p' h1
  · rw [hpv1]; exact h.sep
  · rintro q _ rfl
    exact .inr (.inr (.inl hok))
  · rintro q (rfl | e | e | e | e | ⟨p, hp1, e⟩)
    · exact .inl (.inl rfl)
    · exact .inl (.inr (.inl e))
    · rw [hfv] at e
      exact .inl (.inr (.inr (.inl e)))
    · exact .inl (.inr (.inr (.inr (.inl e))))
    · exact .inl (.inr (.inr (.inr (.inr (.inl e)))))
    · obtain ⟨p', h1, h2, h3⟩ := hpk p hp1
      rw [← h2] at e
      exact .inl (.inr (.inr (.inr (.inr (.inr ⟨p', h1, e⟩)))))

end Go.Proofs.Yticnklmpplicfaa
