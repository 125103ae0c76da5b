/- The contracts of full and find. -/
import Derived.Test.YticnklmpplicfaaNE
import Derived.Deep.LoopGhost
namespace Go.Proofs.Yticnklmpplicfaa
open Go.RowKit

theorem flat_get {α : Type} (f : α → List Value) (k : Nat) (hk : ∀ x, (f x).length = k) (l : List α) (j i : Nat) (x : α) (hj : l[j]? = some x) (hi : i < k) : (l.flatMap f)[j * k + i]? = (f x)[i]? := by
  induction l generalizing j with
  | nil => simp at hj
  | cons y l ih =>
    rw [List.flatMap_cons]
    match j with
    | 0 =>
      have : y = x := by simpa using hj
      subst this
      rw [List.getElem?_append_left (by rw [hk]; omega)]
      simp
    | j + 1 =>
      rw [List.getElem?_append_right (by rw [hk, Nat.succ_mul]; omega), hk, show (j + 1) * k + i - k = j * k + i by rw [Nat.succ_mul]; omega]
      exact ih j (by simpa using hj)

theorem own_at {w : World} {e : TypeId} {size n : Nat} {a : Option Addr} {c : Nat} {xs : List Value} (h : w.ownsRow 0 e size (.slice a n c) n xs) (hn : 0 < n) :
    ∃ b, a = some ⟨b, 0, none⟩ ∧ b < w.heap.size ∧ tyAt w b = some e ∧ n ≤ c ∧ ∀ i u, xs[i]? = some u → w.cell? ⟨b, i, none⟩ = some u ∧ w.frozen? ⟨b, i, none⟩ = false := by
  have h' := h
  rcases h.2 with ⟨e1, h0⟩ | ⟨g, cap, cur, e1, _, hg, hc, hs, hl, hx⟩
  · omega
  · have hag : a = some ⟨g, 0, none⟩ := by injection e1
    have hcc : c = cap := by injection e1
    subst hag hcc
    refine ⟨g, rfl, own_lt h' rfl, own_ty h' rfl, hc, fun i u hu => ⟨?_, ?_⟩⟩
    · have hi : i < xs.length := (List.getElem?_eq_some_iff.1 hu).1
      rw [World.ownsRow.cellAt h' i (by rw [← h'.1]; exact hi)]
      exact hu
    · simp [World.frozen?, hg]

theorem Net.fly_at {w : World} {g : Nat} {s : CS} (h : Net w g s) (j : Nat) (f : Fl) (hj : s.F[j]? = some f) :
    ∃ b, s.fa = some ⟨b, 0, none⟩ ∧ b < w.heap.size ∧ tyAt w b = some 107 ∧ s.F.length ≤ s.fc ∧ j < s.F.length ∧
      ∀ i u, f.cells[i]? = some u → i < 5 → w.cell? ⟨b, j * 5 + i, none⟩ = some u ∧ w.frozen? ⟨b, j * 5 + i, none⟩ = false := by
  have hl : j < s.F.length := (List.getElem?_eq_some_iff.1 hj).1
  obtain ⟨b, e1, hb, ht, hc, hx⟩ := own_at h.fly (by omega)
  exact ⟨b, e1, hb, ht, hc, hl, fun i u hu hi => hx _ _ (by rw [flCells, flat_get Fl.cells 5 (fun _ => rfl) _ _ _ _ hj hi]; exact hu)⟩
theorem Net.hist_at {w : World} {g : Nat} {s : CS} (h : Net w g s) (j : Nat) (p : Pk) (hj : s.H[j]? = some p) :
    ∃ b, s.ha = some ⟨b, 0, none⟩ ∧ b < w.heap.size ∧ tyAt w b = some 67 ∧ s.H.length ≤ s.hc ∧ j < s.H.length ∧
      ∀ i u, p.cells[i]? = some u → i < 3 → w.cell? ⟨b, j * 3 + i, none⟩ = some u ∧ w.frozen? ⟨b, j * 3 + i, none⟩ = false := by
  have hl : j < s.H.length := (List.getElem?_eq_some_iff.1 hj).1
  obtain ⟨b, e1, hb, ht, hc, hx⟩ := own_at h.hist (by omega)
  exact ⟨b, e1, hb, ht, hc, hl, fun i u hu hi => hx _ _ (by rw [pkCells, flat_get Pk.cells 3 (fun _ => rfl) _ _ _ _ hj hi]; exact hu)⟩

theorem full_any (g : Nat) (s : CS) (w : World) (h : Net w g s) :
    Calls Try.prog 54 #[.pointer (some ⟨g, 0, none⟩)] w fun e w' => e = .returned (.bool (decide (64 ≤ s.F.length))) ∧ w = w' := by
  have c1 : w.cell? ⟨g, 1, none⟩ = some s.fv := h.blk.cell 1
  unfold CS.fv at c1
  have lg := h.blk.lt
  clear h
  have HB := Lib.hid (show decide ((64 : Int) ≤ (s.F.length : Int)) = decide (64 ≤ s.F.length) by simp; omega)
  go_enter Try.func54, Try.ntmps54
  go_wp2
  go_ret
  exact ⟨nret_bool HB.out, rfl⟩

/-- The closure of find. -/
theorem same_any (f : Fl) (id : Int) (B : Nat) (w : World) (hc : w.cell? ⟨B, 0, none⟩ = some (.int .i64 id)) :
    Calls Try.prog 68 #[.agg f.cells.toArray, .pointer (some ⟨B, 0, none⟩)] w fun e w' => e = .returned (.bool (f.id == id)) ∧ Below w.heap.size w w' := by
  have hB := ncell_lt hc
  simp at hB
  show Calls Try.prog 68 #[.agg #[.string f.p.fr, .string f.p.to, f.p.v, .int .i64 f.id, .int .i64 f.src], .pointer (some ⟨B, 0, none⟩)] w _
  unfold Pk.v
  go_enter Try.func68, Try.ntmps68
  go_wp2
  go_ret
  exact ⟨rfl, nbelow1 _ _⟩

/-- The place of an identifier. -/
def fi (F : List Fl) (id : Int) : Option Nat := F.findIdx? (fun f => f.id == id)
def ixv : Option Nat → Int
  | some i => (i : Int)
  | none => -1
theorem fi_hit {F : List Fl} {id : Int} {k : Nat} {f : Fl} (hf : F[k]? = some f) (h : (f.id == id) = true) (hb : ∀ j f', j < k → F[j]? = some f' → (f'.id == id) = false) : fi F id = some k := by
  unfold fi
  rw [List.findIdx?_eq_some_iff_getElem]
  have hk := (List.getElem?_eq_some_iff.1 hf).1
  refine ⟨hk, ?_, fun j hj => ?_⟩
  · have := (List.getElem?_eq_some_iff.1 hf).2
    simp only [this]; exact h
  · have := hb j F[j] hj (List.getElem?_eq_getElem (by omega))
    simp only [this]; simp
theorem fi_miss {F : List Fl} {id : Int} (hb : ∀ j f', j < F.length → F[j]? = some f' → (f'.id == id) = false) : fi F id = none := by
  unfold fi
  rw [List.findIdx?_eq_none_iff]
  intro x hx
  obtain ⟨j, hj, rfl⟩ := List.mem_iff_getElem.1 hx
  exact hb j _ hj (List.getElem?_eq_getElem hj)
theorem fi_at {F : List Fl} {id : Int} {k : Nat} (h : fi F id = some k) : ∃ f, F[k]? = some f ∧ f.id = id ∧ k < F.length := by
  unfold fi at h
  rw [List.findIdx?_eq_some_iff_getElem] at h
  obtain ⟨hk, h1, _⟩ := h
  exact ⟨_, List.getElem?_eq_getElem hk, by simpa using h1, hk⟩

set_option maxHeartbeats 1000000 in
theorem index_any (g : Nat) (s : CS) (id : Int) (B : Nat) (w : World) (h : Net w g s) (hc : w.cell? ⟨B, 0, none⟩ = some (.int .i64 id)) (hF : s.F.length ≤ 1000000) :
    Calls Try.prog 67 #[s.fv, .func (.func 68) #[] #[.pointer (some ⟨B, 0, none⟩)]] w fun e w' => e = .returned (.int .i64 (ixv (fi s.F id))) ∧ Below w.heap.size w w' := by
  have HH := Lib.hid h
  have HC := Lib.hid hc
  clear h hc
  unfold CS.fv
  obtain ⟨fa, hfa⟩ : ∃ fa, fa = s.fa := ⟨_, rfl⟩
  rw [← hfa]
  have HFA := Lib.hid hfa
  clear hfa
  go_enter Try.func67, Try.ntmps67
  go_wp2
  go_loopg [5, 8] s.F.length (fun gg _ s8 wr => ∃ kk : Nat, kk ≤ s.F.length ∧ s.F.length - kk ≤ gg ∧ s8 = .int .i64 kk ∧ Aside (Below w.heap.size w wr) ∧ Aside (∀ j f', j < kk → s.F[j]? = some f' → (f'.id == id) = false))
  case atStart => exact ⟨0, Nat.zero_le _, by omega, rfl, Below.refl _ w, fun j _ hj => absurd hj (Nat.not_lt_zero _)⟩
  case round =>
    obtain ⟨kk, hkk, hg, rfl, BW, A⟩ := hrel
    by_cases hlt : kk < s.F.length
    · have hltz : (kk : Int) < (s.F.length : Int) := by omega
      obtain ⟨f, hf⟩ : ∃ f, s.F[kk]? = some f := ⟨_, List.getElem?_eq_getElem hlt⟩
      obtain ⟨b, hb1, hb2, _, hcap, _, hx⟩ := (HH.out.below BW.out).fly_at kk f hf
      have x0 := (hx 0 (.string f.p.fr) rfl (by omega)).1
      have x1 := (hx 1 (.string f.p.to) rfl (by omega)).1
      have x2 := (hx 2 (.slice f.p.a f.p.bs.length f.p.cap) rfl (by omega)).1
      have x3 := (hx 3 (.int .i64 f.id) rfl (by omega)).1
      have x4 := (hx 4 (.int .i64 f.src) rfl (by omega)).1
      simp only [Nat.add_zero] at x0
      clear hx
      obtain rfl : fa = some ⟨b, 0, none⟩ := HFA.out.trans hb1
      clear hb1
      have hcall := same_any f id B wr ((BW.out.cell (p := ⟨B, 0, none⟩) (ncell_lt HC.out)).trans HC.out)
      have HF := Lib.hid hf
      clear hf
      cases hq : (f.id == id) with
      | true =>
        rw [hq] at hcall
        go_wp2_with (go_at_call 68; refine hcall.mono ?_; rintro e w' ⟨rfl, hb'⟩)
        go_ret
        exact ⟨by rw [fi_hit HF.out hq A.out]; rfl, nbelow_trans BW.out hb'⟩
      | false =>
        rw [hq] at hcall
        go_wp2_with (go_at_call 68; refine hcall.mono ?_; rintro e w' ⟨rfl, hb'⟩)
        go_roundg (s.F.length - (kk + 1))
        case measure => omega
        case rel =>
          refine ⟨kk + 1, by omega, by omega, by go_num, nbelow_trans BW.out hb', (show Aside _ from fun j f' hj hj' => ?_)⟩
          by_cases e : j = kk
          · subst e
            have := HF.out.symm.trans hj'
            injection this with this
            subst this
            exact hq
          · exact A.out j f' (by omega) hj'
    · have hltz : ¬ (kk : Int) < (s.F.length : Int) := by omega
      have : kk = s.F.length := by omega
      subst this
      go_wp2
      go_ret
      exact ⟨by rw [fi_miss A.out]; rfl, BW.out⟩

theorem find_any (g : Nat) (s : CS) (id : Int) (w : World) (h : Net w g s) (hF : s.F.length ≤ 1000000) :
    Calls Try.prog 58 #[.pointer (some ⟨g, 0, none⟩), .int .i64 id] w fun e w' => e = .returned (.int .i64 (ixv (fi s.F id))) ∧ Below w.heap.size w w' := by
  have c1 : w.cell? ⟨g, 1, none⟩ = some s.fv := h.blk.cell 1
  have lg := h.blk.lt
  have hcon := index_any g s id w.heap.size (w.alloc (.cells #[.int .i64 id] 3)) (h.alloc _) (by simp) hF
  clear h
  unfold CS.fv at c1 hcon
  generalize ixv (fi s.F id) = r at hcon ⊢
  go_enter Try.func58, Try.ntmps58
  go_wp2_with (go_at_call 67; refine hcon.mono ?_; rintro e w' ⟨rfl, hb'⟩)
  go_ret
  exact ⟨rfl, nbelow_box hb'⟩

end Go.Proofs.Yticnklmpplicfaa
