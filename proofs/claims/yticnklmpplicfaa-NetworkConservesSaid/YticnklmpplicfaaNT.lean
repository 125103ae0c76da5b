/- The contracts of slices.Clone, Events, History. -/
import Derived.Test.YticnklmpplicfaaNS
namespace Go.Proofs.Yticnklmpplicfaa
open Go.RowKit

set_option maxHeartbeats 800000 in
theorem evclone_any (a : Option Addr) (n cap : Nat) (xs : List Value) (w : World) (h : w.ownsRow 0 88 3 (.slice a n cap) n xs) (hone : ∀ u ∈ xs, u.oneCell' = true) (hn : n ≤ 1000000) :
    Calls Try.prog 64 #[.slice a n cap] w fun e w' => ∃ a' c', e = .returned (.slice a' n c') ∧ w'.ownsRow 0 88 3 (.slice a' n c') n xs ∧ Below w.heap.size w w' ∧ ∀ k, (Value.slice a' n c').ownBlock = some k → w.heap.size ≤ k := by
  have HH := Lib.hid h
  cases a with
  | none =>
    have h0 : n = 0 ∧ cap = 0 ∧ xs = [] := by
      rcases h.2 with ⟨e1, h0⟩ | ⟨g, c1, cur, e1, _⟩
      · injection e1 with _ _ e1
        exact ⟨h0, e1, List.eq_nil_of_length_eq_zero (by rw [h.1, h0])⟩
      · injection e1 with e1; cases e1
    obtain ⟨rfl, rfl, rfl⟩ := h0
    have he := fun W => Lib.run_eql_slice_nil (P := Try.prog) W 61 88 none 0 0 0 0 Try.underlying61
    clear h
    go_enter Try.func64, Try.ntmps64
    go_wp2_with fail
    go_ret
    exact ⟨none, 0, rfl, ⟨rfl, .inl ⟨rfl, rfl⟩⟩, Below.refl _ _, fun k hk => by simp [Value.ownBlock] at hk⟩
  | some ad =>
    have he := fun W => Lib.run_eql_slice_nil (P := Try.prog) W 61 88 (some ad) n cap 0 0 Try.underlying61
    obtain ⟨i0, hi0, hz0, hz1, hz2⟩ := info_parts Try.info88
    have hsrc : ∀ j u, xs[j]? = some u → (w.alloc (.cells #[] 88)).cell? (ad.add j) = some u := by
      intro j u hu
      have hj : j < n * 3 := by rw [← h.1]; exact (List.getElem?_eq_some_iff.1 hu).1
      obtain ⟨b, e1, _, _, _, hx⟩ := own_at (h.alloc (.cells #[] 88)) (by omega)
      obtain rfl : ad = ⟨b, 0, none⟩ := Option.some.inj e1
      rw [Addr.add_lit, Nat.zero_add]
      exact (hx j u hu).1
    have hsl := h.1
    have hown : (w.alloc (.cells #[] 88)).ownsRow 0 88 3 (.slice (some ⟨w.heap.size, 0, none⟩) 0 0) 0 [] :=
      ⟨rfl, .inr ⟨w.heap.size, 0, #[], rfl, Nat.zero_le _, heap_alloc_new w _, Nat.le_refl _, Nat.zero_le _, rfl, rfl⟩⟩
    have HS := Lib.hid hsrc
    have HL := Lib.hid hsl
    have HO := Lib.hid hone
    clear hsl hsrc h hone
    go_enter Try.func64, Try.ntmps64
    go_wp2_with (at_builtin; refine wpList_append_own_at _ rfl _ _ 61 rfl 0 88 i0 _ 3 24 Try.underlying61 hi0 hz0 hz1 hz2 rfl (by decide) _ 0 [] rfl hown ad n cap xs rfl ?_ ?_ HO.out ?_ ?_ (Nat.zero_le _) ?_)
    · exact HL.out
    · exact HS.out
    · unfold maxLen; omega
    · omega
    · intro v1 w1 hown1 hg1 _ hat
      obtain ⟨a1, c1, hv1⟩ := own_form hown1
      rw [hv1] at hown1 hat ⊢
      clear hv1
      go_wp2
      go_ret
      refine ⟨a1, c1, rfl, hown1, ?_, ?_⟩
      · exact (nbelow1 w _).grown hg1 (by simp) (fun k hk => by simp [Value.ownBlock] at hk; omega)
      · intro k hk
        rcases hat with h | h <;> rw [h] at hk <;> simp [Value.ownBlock] at hk <;> omega

set_option maxHeartbeats 800000 in
theorem pkclone_any (a : Option Addr) (n cap : Nat) (xs : List Value) (w : World) (h : w.ownsRow 0 67 3 (.slice a n cap) n xs) (hone : ∀ u ∈ xs, u.oneCell' = true) (hn : n ≤ 1000000) :
    Calls Try.prog 71 #[.slice a n cap] w fun e w' => ∃ a' c', e = .returned (.slice a' n c') ∧ w'.ownsRow 0 67 3 (.slice a' n c') n xs ∧ Below w.heap.size w w' ∧ ∀ k, (Value.slice a' n c').ownBlock = some k → w.heap.size ≤ k := by
  have HH := Lib.hid h
  cases a with
  | none =>
    have h0 : n = 0 ∧ cap = 0 ∧ xs = [] := by
      rcases h.2 with ⟨e1, h0⟩ | ⟨g, c1, cur, e1, _⟩
      · injection e1 with _ _ e1
        exact ⟨h0, e1, List.eq_nil_of_length_eq_zero (by rw [h.1, h0])⟩
      · injection e1 with e1; cases e1
    obtain ⟨rfl, rfl, rfl⟩ := h0
    have he := fun W => Lib.run_eql_slice_nil (P := Try.prog) W 58 67 none 0 0 0 0 Try.underlying58
    clear h
    go_enter Try.func71, Try.ntmps71
    go_wp2_with fail
    go_ret
    exact ⟨none, 0, rfl, ⟨rfl, .inl ⟨rfl, rfl⟩⟩, Below.refl _ _, fun k hk => by simp [Value.ownBlock] at hk⟩
  | some ad =>
    have he := fun W => Lib.run_eql_slice_nil (P := Try.prog) W 58 67 (some ad) n cap 0 0 Try.underlying58
    obtain ⟨i0, hi0, hz0, hz1, hz2⟩ := info_parts Try.info67
    have hsrc : ∀ j u, xs[j]? = some u → (w.alloc (.cells #[] 67)).cell? (ad.add j) = some u := by
      intro j u hu
      have hj : j < n * 3 := by rw [← h.1]; exact (List.getElem?_eq_some_iff.1 hu).1
      obtain ⟨b, e1, _, _, _, hx⟩ := own_at (h.alloc (.cells #[] 67)) (by omega)
      obtain rfl : ad = ⟨b, 0, none⟩ := Option.some.inj e1
      rw [Addr.add_lit, Nat.zero_add]
      exact (hx j u hu).1
    have hsl := h.1
    have hown : (w.alloc (.cells #[] 67)).ownsRow 0 67 3 (.slice (some ⟨w.heap.size, 0, none⟩) 0 0) 0 [] :=
      ⟨rfl, .inr ⟨w.heap.size, 0, #[], rfl, Nat.zero_le _, heap_alloc_new w _, Nat.le_refl _, Nat.zero_le _, rfl, rfl⟩⟩
    have HS := Lib.hid hsrc
    have HL := Lib.hid hsl
    have HO := Lib.hid hone
    clear hsl hsrc h hone
    go_enter Try.func71, Try.ntmps71
    go_wp2_with (at_builtin; refine wpList_append_own_at _ rfl _ _ 58 rfl 0 67 i0 _ 3 56 Try.underlying58 hi0 hz0 hz1 hz2 rfl (by decide) _ 0 [] rfl hown ad n cap xs rfl ?_ ?_ HO.out ?_ ?_ (Nat.zero_le _) ?_)
    · exact HL.out
    · exact HS.out
    · unfold maxLen; omega
    · omega
    · intro v1 w1 hown1 hg1 _ hat
      obtain ⟨a1, c1, hv1⟩ := own_form hown1
      rw [hv1] at hown1 hat ⊢
      clear hv1
      go_wp2
      go_ret
      refine ⟨a1, c1, rfl, hown1, ?_, ?_⟩
      · exact (nbelow1 w _).grown hg1 (by simp) (fun k hk => by simp [Value.ownBlock] at hk; omega)
      · intro k hk
        rcases hat with h | h <;> rw [h] at hk <;> simp [Value.ownBlock] at hk <;> omega

/-- What events gives: a function over a copy of the row. -/
def Gives38 (W : World) (xs : List Value) (n : Nat) (e : Ending) (w' : World) : Prop :=
  ∃ B a c, e = .returned (.func (.func 65) #[] #[.pointer (some ⟨B, 0, none⟩)]) ∧ Blk w' B 61 #[.slice a n c] ∧ w'.ownsRow 0 88 3 (.slice a n c) n xs ∧ Below W.heap.size W w' ∧ W.heap.size ≤ B ∧ ∀ k, (Value.slice a n c).ownBlock = some k → W.heap.size ≤ k

set_option maxHeartbeats 800000 in
set_option maxRecDepth 20000 in
theorem events_any (g : Nat) (s : CS) (w : World) (h : Net w g s) (hn : s.E.length ≤ 1000000) :
    Calls Try.prog 38 #[.pointer (some ⟨g, 0, none⟩)] w (Gives38 w (evCells s.E) s.E.length) := by
  have b1 : w.cell? ⟨g, 4, none⟩ = some s.ev := h.blk.cell 4
  have l1 := h.blk.lt
  have hcl := evclone_any _ _ _ _ (w.alloc (.cells #[.slice none 0 0] 61)) (h.alloc _).evs (fun u hu => by
    obtain ⟨x, _, hx⟩ := List.mem_flatMap.1 hu
    exact ev_one x u hx) hn
  unfold CS.ev at b1
  clear h
  go_enter Try.func38, Try.ntmps38
  go_wp2_with fail
  refine hcl.mono ?_; rintro e w1 ⟨a', c', rfl, ho, hb, hf⟩
  have hx : Blk w1 w.heap.size 61 #[.slice none 0 0] := (Blk.new _ _ _).below hb (by simp)
  have y0 := hx.cell 0
  have g0 := hx.frozen 0
  have lx := hx.lt
  simp at y0
  have hne : (Value.slice a' s.E.length c').ownBlock ≠ some w.heap.size := fun e => by
    have := hf _ e
    simp at this
    omega
  have HB := Lib.hid (nbelow_box hb)
  have HX := Lib.hid (hx.set_ 0 (.slice a' s.E.length c'))
  have HO := Lib.hid (ownsRow_setCell_other ho (a := ⟨w.heap.size, 0, none⟩) hne (.slice a' s.E.length c'))
  have HF := Lib.hid (fun k hk => Nat.le_trans (nbelow1 w (.cells #[.slice none 0 0] 61)).size (hf k hk))
  clear hcl hb hx hne ho hf
  go_wp2_with fail
  refine bodyPost_ret (v := .func (.func 65) #[] #[.pointer (some ⟨w.heap.size, 0, none⟩)]) (by simp [results, Try.results38, go_sem]) rfl ⟨w.heap.size, a', c', rfl, ?_, HO.out, HB.out.setCell (by simp) _, Nat.le_refl _, HF.out⟩
  simpa using HX.out

/-- What history gives: a function over a copy of the row. -/
def Gives61 (W : World) (xs : List Value) (n : Nat) (e : Ending) (w' : World) : Prop :=
  ∃ B a c, e = .returned (.func (.func 72) #[] #[.pointer (some ⟨B, 0, none⟩)]) ∧ Blk w' B 58 #[.slice a n c] ∧ w'.ownsRow 0 67 3 (.slice a n c) n xs ∧ Below W.heap.size W w' ∧ W.heap.size ≤ B ∧ ∀ k, (Value.slice a n c).ownBlock = some k → W.heap.size ≤ k

set_option maxHeartbeats 800000 in
set_option maxRecDepth 20000 in
theorem history_any (g : Nat) (s : CS) (w : World) (h : Net w g s) (hn : s.H.length ≤ 1000000) :
    Calls Try.prog 61 #[.pointer (some ⟨g, 0, none⟩)] w (Gives61 w (pkCells s.H) s.H.length) := by
  have b1 : w.cell? ⟨g, 0, none⟩ = some s.hv := h.blk.cell 0
  have l1 := h.blk.lt
  have hcl := pkclone_any _ _ _ _ (w.alloc (.cells #[.slice none 0 0] 58)) (h.alloc _).hist (fun u hu => by
    obtain ⟨x, _, hx⟩ := List.mem_flatMap.1 hu
    exact pk_one x u hx) hn
  unfold CS.hv at b1
  clear h
  go_enter Try.func61, Try.ntmps61
  go_wp2_with fail
  refine hcl.mono ?_; rintro e w1 ⟨a', c', rfl, ho, hb, hf⟩
  have hx : Blk w1 w.heap.size 58 #[.slice none 0 0] := (Blk.new _ _ _).below hb (by simp)
  have y0 := hx.cell 0
  have g0 := hx.frozen 0
  have lx := hx.lt
  simp at y0
  have hne : (Value.slice a' s.H.length c').ownBlock ≠ some w.heap.size := fun e => by
    have := hf _ e
    simp at this
    omega
  have HB := Lib.hid (nbelow_box hb)
  have HX := Lib.hid (hx.set_ 0 (.slice a' s.H.length c'))
  have HO := Lib.hid (ownsRow_setCell_other ho (a := ⟨w.heap.size, 0, none⟩) hne (.slice a' s.H.length c'))
  have HF := Lib.hid (fun k hk => Nat.le_trans (nbelow1 w (.cells #[.slice none 0 0] 58)).size (hf k hk))
  clear hcl hb hx hne ho hf
  go_wp2_with fail
  refine bodyPost_ret (v := .func (.func 72) #[] #[.pointer (some ⟨w.heap.size, 0, none⟩)]) (by simp [results, Try.results61, go_sem]) rfl ⟨w.heap.size, a', c', rfl, ?_, HO.out, HB.out.setCell (by simp) _, Nat.le_refl _, HF.out⟩
  simpa using HX.out

end Go.Proofs.Yticnklmpplicfaa
