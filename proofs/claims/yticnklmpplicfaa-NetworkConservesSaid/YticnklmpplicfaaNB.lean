/- The contracts of bytes.Clone and of clone of package network. -/
import Derived.Test.YticnklmpplicfaaNA
namespace Go.Proofs.Yticnklmpplicfaa
open Go.RowKit

theorem Try.info5 : (Try.prog.info? 5).map (fun i => (i.zero, i.size, i.bytes)) = some (some (.int .u8 0), 1, 1) := by kernel_rfl

/-- What Clone gives: bytes of its own, in new memory. -/
def Cloned (W : World) (bs : List Int) (e : Ending) (w' : World) : Prop :=
  ∃ a cap, e = .returned (.slice a bs.length cap) ∧ OwnB w' (.slice a bs.length cap) bs ∧ Below W.heap.size W w' ∧ ∀ k, (Value.slice a bs.length cap).ownBlock = some k → W.heap.size ≤ k

theorem u8s_one (bs : List Int) : ∀ u ∈ u8s bs, u.oneCell' = true := by
  intro u hu
  simp only [u8s, List.mem_map] at hu
  obtain ⟨x, _, rfl⟩ := hu
  rfl

theorem own_form {w : World} {e : TypeId} {size n : Nat} {v : Value} {xs : List Value} (h : w.ownsRow 0 e size v n xs) : ∃ a c, v = .slice a n c := by
  rcases h.2 with ⟨rfl, rfl⟩ | ⟨g, cap, cur, rfl, _⟩
  · exact ⟨_, _, rfl⟩
  · exact ⟨_, _, rfl⟩

theorem own_empty (w : World) : (w.alloc (.cells #[] 5)).ownsRow 0 5 1 (.slice (some ⟨w.heap.size, 0, none⟩) 0 0) 0 [] :=
  ⟨rfl, .inr ⟨w.heap.size, 0, #[], rfl, Nat.zero_le _, heap_alloc_new w _, Nat.le_refl _, Nat.zero_le _, rfl, rfl⟩⟩

/-- The source of an append: the cells lie where the slice says. -/
theorem Rd.src {w : World} {ad : Addr} {bs : List Int} {cap : Nat} (h : Rd w (.slice (some ad) bs.length cap) bs) : ∀ j u, (u8s bs)[j]? = some u → (w.alloc (.cells #[] 5)).cell? (ad.add j) = some u := by
  intro j u hu
  have hj : j < bs.length := by
    have := List.getElem?_eq_some_iff.1 hu
    rw [← u8s_len bs]; exact this.1
  obtain ⟨b, off, cap', hv, hc⟩ := (h.alloc (.cells #[] 5)).cells (by omega)
  have hae : ad = ⟨b, off, none⟩ := by injection hv with h1; injection h1
  subst hae
  have h2 := hc j hj
  have h3 : (⟨b, off, none⟩ : Addr).add j = ⟨b, off + j, none⟩ := by
    unfold Addr.add; split
    · rename_i h; subst h; rfl
    · rfl
  rw [h3, h2]
  simp only [u8s, List.getElem?_map, List.getElem?_eq_getElem hj, Option.map_some, Option.some.injEq] at hu
  rw [← hu, List.getD_eq_getElem?_getD, List.getElem?_eq_getElem hj]; rfl

set_option maxHeartbeats 400000 in
theorem bclone_any (v : Value) (bs : List Int) (w : World) (h : Rd w v bs) (hn : bs.length ≤ 65536) : Calls Try.prog 66 #[v] w (Cloned w bs) := by
  obtain ⟨a, cap, rfl, ha⟩ := h.form
  have HH := Lib.hid h
  clear h
  cases a with
  | none =>
    obtain ⟨h0, rfl⟩ := ha rfl
    subst h0
    have he := fun W => Lib.run_eql_slice_nil (P := Try.prog) W 65 5 none 0 0 0 0 Try.underlying65
    go_enter Try.func66, Try.ntmps66
    go_wp2_with fail
    go_ret
    exact ⟨none, 0, rfl, ⟨rfl, .inl ⟨rfl, rfl⟩⟩, Below.refl _ _, fun k hk => by simp [Value.ownBlock] at hk⟩
  | some ad =>
    have he := fun W => Lib.run_eql_slice_nil (P := Try.prog) W 65 5 (some ad) bs.length cap 0 0 Try.underlying65
    obtain ⟨i0, hi0, hz0, hz1, hz2⟩ := info_parts Try.info5
    have hsrc := HH.out.src
    have hsl := u8s_len bs
    have hown := own_empty w
    have HS := Lib.hid hsrc
    have HL := Lib.hid hsl
    clear hsl hsrc
    go_enter Try.func66, Try.ntmps66
    go_wp2_with (at_builtin; refine wpList_append_own_at _ rfl _ _ 65 rfl 0 5 i0 _ 1 1 Try.underlying65 hi0 hz0 hz1 hz2 rfl (by decide) _ 0 [] rfl hown ad bs.length cap (u8s bs) rfl ?_ ?_ (u8s_one bs) ?_ ?_ (Nat.zero_le _) ?_)
    · rw [HL.out]; omega
    · exact HS.out
    · unfold maxLen; omega
    · omega
    · intro v1 w1 hown1 hg1 _ hat
      obtain ⟨a1, c1, hv1⟩ := own_form hown1
      rw [hv1] at hown1 hat ⊢
      clear hv1
      go_wp2
      go_ret
      refine ⟨a1, c1, rfl, hown1, ?_, ?_⟩
      · exact (nbelow1 w _).grown hg1 (by simp) (fun k hk => by simp [Value.ownBlock] at hk; omega)
      · intro k hk
        rcases hat with h | h <;> rw [h] at hk <;> simp [Value.ownBlock] at hk <;> omega


/-- What clone gives: the packet with bytes of its own. -/
def ClonedP (W : World) (f t : ByteArray) (bs : List Int) (e : Ending) (w' : World) : Prop :=
  ∃ a cap, e = .returned (.agg #[.string f, .string t, .slice a bs.length cap]) ∧ OwnB w' (.slice a bs.length cap) bs ∧ Below W.heap.size W w' ∧ ∀ k, (Value.slice a bs.length cap).ownBlock = some k → W.heap.size ≤ k

set_option maxHeartbeats 400000 in
theorem clone_any (f t : ByteArray) (v : Value) (bs : List Int) (w : World) (h : Rd w v bs) (hn : bs.length ≤ 65536) :
    Calls Try.prog 55 #[.agg #[.string f, .string t, v]] w (ClonedP w f t bs) := by
  obtain ⟨a, cap, rfl, ha⟩ := h.form
  have HH := Lib.hid h
  clear h ha
  go_enter Try.func55, Try.ntmps55
  go_wp2_with fail
  refine (bclone_any _ _ _ ((HH.out.alloc _).alloc _) hn).mono ?_; rintro e w1 ⟨a1, c1, rfl, hown, hb1, hf⟩
  have hx : Blk w1 w.heap.size 67 #[.string f, .string t, .slice a bs.length cap] := ((Blk.new w _ _).alloc _).below hb1 (by simp; omega)
  have hy : Blk w1 (w.heap.size + 1) 67 #[.string ByteArray.empty, .string ByteArray.empty, .slice none 0 0] := (Blk.new' _ _ _ _ (by simp)).below hb1 (by simp)
  have x0 := hx.cell 0
  have x1 := hx.cell 1
  have x2 := hx.cell 2
  have f2 := hx.frozen 2
  have y0 := hy.cell 0
  have y1 := hy.cell 1
  have y2 := hy.cell 2
  have g0 := hy.frozen 0
  have g1 := hy.frozen 1
  have g2 := hy.frozen 2
  have lx := hx.lt
  have ly := hy.lt
  simp at x0 x1 x2 y0 y1 y2
  clear hx hy
  go_wp2_with fail
  refine bodyPost_ret (v := .agg #[.string f, .string t, .slice a1 bs.length c1]) (by simp [results, Try.results55, go_sem, y0, y1, y2]) rfl ⟨a1, c1, rfl, ?_, ?_, ?_⟩
  · refine own_kept (S := fun k => k = w.heap.size ∨ k = w.heap.size + 1) hown (((((Kept.refl _ _).setCell (.inl (.inl rfl)) _).setCell (.inl (.inr rfl)) _).setCell (.inl (.inr rfl)) _).setCell (.inl (.inr rfl)) _) ?_
    intro k hk
    have := hf k hk
    simp at this
    omega
  · exact ((((nbelow_box (nbelow_box hb1)).setCell (by simp) _).setCell (by simp) _).setCell (by simp) _).setCell (by simp) _
  · intro k hk
    have := hf k hk
    simp at this
    omega

end Go.Proofs.Yticnklmpplicfaa
