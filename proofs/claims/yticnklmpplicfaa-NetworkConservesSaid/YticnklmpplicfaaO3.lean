/- The contract of sent. -/
import Derived.Test.YticnklmpplicfaaO2
import Derived.Test.YticnklmpplicfaaO1
namespace Go.Proofs.Yticnklmpplicfaa
open Go.RowKit Go.Shelf

attribute [local go_sem] Oper.semAt_some

theorem keeps_below {A B : World} (h : Below A.heap.size A B) : KeepsOthers A B :=
  ⟨h.size, fun k _ hk _ => (h.block k (Array.getElem?_eq_some_iff.1 hk).1).trans hk⟩
theorem rd_from {n : Nat} {v : Value} {bs : List Int} : OwnFrom n (fun (_ : Unit) W => Rd W v bs) :=
  fun _ _ _ _ hs hg hr => hs.keep fun _ _ _ hc _ => cell_kept hc hg (fun r e => (hr r e).2)
theorem blk_from {n g : Nat} {t : TypeId} {cs : Array Value} : OwnFrom n (fun (_ : Unit) W => Blk W g t cs) :=
  fun _ _ _ _ hs hg hr => (grownBy_keeps_cells hg (fun r e => (hr r e).2) hs rfl).trans hs

theorem came_all {H : List Pk} {ys : List (Nat × Pk)} {f t : ByteArray} {bs : List Int} (h : Came (fun j => H.getD j ⟨ByteArray.empty, ByteArray.empty, none, 0, []⟩) H.length ys)
    (hn : ∀ x ∈ ys, sameB f t bs x.2.fr x.2.to x.2.bs = false) : ¬ ∃ q ∈ H, sameB f t bs q.fr q.to q.bs = true := by
  rintro ⟨q, hq, hs⟩
  obtain ⟨j, hj⟩ := List.getElem?_of_mem hq
  have hlt : j < H.length := (List.getElem?_eq_some_iff.1 hj).1
  obtain ⟨x, hx⟩ : ∃ x, ys[j]? = some x := ⟨_, List.getElem?_eq_getElem (by rw [h.1]; exact hlt)⟩
  obtain ⟨-, h1, h2, h3⟩ := h.2 j x hx
  have hg : H.getD j ⟨ByteArray.empty, ByteArray.empty, none, 0, []⟩ = q := by rw [List.getD_eq_getElem?_getD, hj]; rfl
  simp only [hg] at h1 h2 h3
  have := hn x (List.mem_of_getElem? hx)
  rw [h1, h2, h3, hs] at this
  cases this

set_option maxHeartbeats 3200000 in
set_option maxRecDepth 100000 in
theorem sent_any (g : Nat) (s : CS) (f t : ByteArray) (a0 : Option Addr) (bs : List Int) (c0 : Nat) (w : World) (h : Net w g s) (hH : s.H.length ≤ 100000) (hr : Rd w (.slice a0 bs.length c0) bs) :
    Calls Try.prog 32 #[.pointer (some ⟨g, 0, none⟩), .agg #[.string f, .string t, .slice a0 bs.length c0]] w fun e w' => ∃ b, e = .returned (.bool b) ∧ Below w.heap.size w w' ∧ ((∃ q ∈ s.H, sameB f t bs q.fr q.to q.bs = true) → b = true) := by
  refine (callsIn_wide (n := 6)).1 (callsIn_of_wp_marks Try.func32 rfl trivial (wpIn_wide.2 ?_) rfl)
  simp only [Try.ntmps32, List.size_toArray, List.length_cons, List.length_nil, Nat.reduceAdd, Nat.reduceSub, Array.replicate_succ, Array.replicate_zero, List.push_toArray, List.append_toArray, List.nil_append, List.cons_append]
  have HH := Lib.hid h
  have HR := Lib.hid hr
  have lg := h.blk.lt
  clear h hr
  go_wp2_with fail
  have N0 := (HH.out.alloc (.cells #[.string f, .string t, .slice a0 bs.length c0] 67)).alloc (.cells #[.bool false] 4)
  refine (history_any g s _ N0 (by omega)).mono ?_
  rintro e w1 ⟨B, a, c, rfl, hB, ho, hb, hfB, hfo⟩
  have he := eql_fn81
  have N1 := N0.below hb
  have lB := hB.lt
  have bp : Blk w1 w.heap.size 67 #[.string f, .string t, .slice a0 bs.length c0] := ((Blk.new w _ _).alloc _).below hb (by simp; omega)
  have br : Blk w1 (w.heap.size + 1) 4 #[.bool false] := (Blk.new' _ _ _ _ (by simp)).below hb (by simp)
  have r1 : Rd w1 (.slice a0 bs.length c0) bs := ((HR.out.alloc _).alloc _).below hb
  have HP := Lib.hid bp
  have HQ := Lib.hid br
  have HR1 := Lib.hid r1
  clear bp br r1
  have hbw : Below w.heap.size w w1 := nbelow_trans (nbelow_alloc (nbelow1 _ _) _) hb
  have HN := Lib.hid N1
  have HB := Lib.hid hB
  have HO := Lib.hid ho
  have HW := Lib.hid hbw
  clear N0 N1 hB ho hb hbw hfo
  go_wp2_with fail
  have hseq := hi_stops 5 (by omega) B a c s.H (by omega) w1 HB.out HO.out (fun p hp => HN.out.own p (List.mem_append_left _ hp)) (fun p hp => HN.out.len p (List.mem_append_left _ hp))
  refine wpIn_wide.1 (range_fx (n := 6) (by omega) (gf := 72) (lb := #[.pointer (some ⟨B, 0, none⟩)]) rfl (enters_of Try.func72 (by kernel_rfl) rfl) hseq (fun h k => h.trans k) (fun W l o o' hl h h1 h2 => belowK_b (w := w1) (Nat.le_refl _) W l o o' hl h h1 h2) (Below.refl _ _) (fun _ => rfl)
    (fun pre W => Below w1.heap.size w1 W ∧ ∀ x ∈ pre, sameB f t bs x.2.fr x.2.to x.2.bs = false)
    (fun c _ W => c = .ret ∧ W.cell? ⟨w.heap.size + 1, 0, none⟩ = some (.bool true) ∧ Below w.heap.size w W)
    (OwnFrom.and (ownFrom_below (Nat.le_refl _) (Nat.le_refl _)) (fun _ _ _ _ hs _ _ => hs))
    (fun c => fun pre A B row hs hg hr => ⟨hs.1, cell_kept hs.2.1 hg (fun r e => (hr r e).2), ownFrom_below (β := List (Nat × Pk)) (Nat.le_refl _) HW.out.size pre A B row hs.2.2 hg hr⟩)
    ⟨Below.refl _ _, fun x hx => by cases hx⟩
    (fun x a₁ W => ∃ D, a₁ = { tmps := #[.pointer (some ⟨g, 0, none⟩), .agg #[.string f, .string t, .slice a0 bs.length c0], undef, .pointer (some ⟨w.heap.size, 0, none⟩), .pointer (some ⟨w.heap.size + 1, 0, none⟩),
      .func (.func 72) #[] #[.pointer (some ⟨B, 0, none⟩)], undef, .pointer (some ⟨D, 0, none⟩), .pointer (some ⟨g, 0, none⟩), .func (.func 72) #[] #[.pointer (some ⟨B, 0, none⟩)], .func (.func 72) #[] #[.pointer (some ⟨B, 0, none⟩)], .bool false,
      .func (.func 72) #[] #[.pointer (some ⟨B, 0, none⟩)], .int .i64 (x.1 : Int), .agg #[.string x.2.fr, .string x.2.to, x.2.v], undef, undef, undef], defers := [] } ∧ Blk W D 67 #[.string x.2.fr, .string x.2.to, x.2.v] ∧ Rd W x.2.v x.2.bs)
    ?ax ?assign ?body ?done ?stop)
  case ax =>
    rintro x a₁ u A B' row ⟨D, h1, h2, h3⟩ hg hr
    exact ⟨D, h1, blk_from u A B' row h2 hg hr, rd_from u A B' row h3 hg hr⟩
  case assign =>
    rintro l pre x W K ⟨hbW, hn⟩ hfx hK
    unfold Pk.v
    gi_wp2
    exact hK _ _ (KeepsOthers.alloc _ _) ((Below.refl _ _).alloc hbW.size _) ⟨hbW.alloc hbW.size _, hn⟩ ⟨W.heap.size, rfl, Blk.new _ _ _, hfx.alloc _⟩
  case body =>
    rintro l pre x a₁ W ⟨hbW, hn⟩ ⟨D, rfl, hD, hrd⟩ hlen
    obtain ⟨i, q⟩ := x
    have hbp := HP.out.below hbW HP.out.lt
    have hbr := HQ.out.below hbW HQ.out.lt
    have x0 := hbp.cell 0
    have x1 := hbp.cell 1
    have x2 := hbp.cell 2
    have y0 := hD.cell 0
    have y1 := hD.cell 1
    have y2 := hD.cell 2
    have e0 := hbr.cell 0
    have e1 := hbr.frozen 0
    have lx := hbp.lt
    have ly := hD.lt
    have le := hbr.lt
    have hcl := same_pk f t q.fr q.to a0 q.a bs q.bs c0 q.cap W (HR1.out.below (hbW.mono (Nat.le_refl _))) hrd
    simp at x0 x1 x2 y0 y1 y2 e0
    unfold Pk.v at y2
    rcases hsm : sameB f t bs q.fr q.to q.bs with _ | _
    · rw [hsm] at hcl
      clear hbp hbr hD
      gi_wp2
      refine ⟨trivial, (CallsIn.inRound l (callsIn_wide.2 hcl)).mono ?_⟩
      rintro e w2 ⟨rfl, hb2⟩
      have hk2 := keeps_below hb2
      have hb3 := hb2.mono hbW.size
      clear hb2 hcl
      gi_wp2
      refine ⟨hk2, hb3, hbW.trans hb3, fun x hx => ?_⟩
      rcases List.mem_append.1 hx with hx | hx
      · exact hn x hx
      · simp at hx
        subst hx
        exact hsm
    · rw [hsm] at hcl
      clear hbp hD
      gi_wp2
      refine ⟨trivial, (CallsIn.inRound l (callsIn_wide.2 hcl)).mono ?_⟩
      rintro e w2 ⟨rfl, hb2⟩
      have hk2 := keeps_below hb2
      have hb3 := hb2.mono hbW.size
      have hbr2 := hbr.below hb2 le
      have e2 := hbr2.cell 0
      have e3 := hbr2.frozen 0
      have le2 := hbr2.lt
      simp at e2
      clear hb2 hcl hbr
      gi_wp2
      refine ⟨hk2.trans (KeepsOthers.setCell _ _ _), rfl, ?_, ?_⟩
      · exact (hbr2.set_ 0 (.bool true)).cell 0
      · exact (HW.out.trans ((hbW.trans hb3).mono HW.out.size)).setCell (by simp) _
  case done =>
    rintro D xs W hD hS ⟨hbW, hn⟩ hK
    have hno := came_all hS hn
    have br := HQ.out.below hbW HQ.out.lt
    have e0 := br.cell 0
    have e1 := br.frozen 0
    have e2 := br.lt
    simp at e0
    go_wp2_with fail
    have hK' : (W.setCell ⟨w.heap.size + 1, 0, none⟩ (.bool false)).heap[D]? = some (.deferred (some [])) := (Below.heap_setCell W _ _ D (by simp; have := HQ.out.lt; omega)).trans hK
    have c0 := (br.set_ 0 (.bool false)).cell 0
    refine ⟨by simp, .inl ⟨_, _, rfl, run_takeDeferred hK', ?_⟩⟩
    have hB' := belowK_b (w := w1) (Nat.le_refl _) (W.setCell ⟨w.heap.size + 1, 0, none⟩ (.bool false)) D _ (.deferred none) hD hK' rfl rfl
    have hr0 : ((W.setCell ⟨w.heap.size + 1, 0, none⟩ (.bool false)).putObj D (.deferred none)).cell? ⟨w.heap.size + 1, 0, none⟩ = some (.bool false) := (hB'.cell (p := ⟨w.heap.size + 1, 0, none⟩) HQ.out.lt).trans c0
    refine ⟨.bool false, ?_, false, rfl, ?_, fun h => absurd h hno⟩
    · simp [results, Try.results32, go_sem, hr0]
    · exact ((HW.out.trans (hbW.mono HW.out.size)).setCell (p := ⟨w.heap.size + 1, 0, none⟩) (by simp) _).trans (hB'.mono HW.out.size)
  case stop =>
    rintro D c pre W hD ⟨rfl, hc, hbW⟩ hK
    refine wpIn_wide.2 ?_
    go_wp2_with fail
    refine ⟨by simp, .inl ⟨_, _, rfl, run_takeDeferred hK, ?_⟩⟩
    have hB' := belowK_b (w := w1) (Nat.le_refl _) W D _ (.deferred none) hD hK rfl rfl
    have hr0 : (W.putObj D (.deferred none)).cell? ⟨w.heap.size + 1, 0, none⟩ = some (.bool true) := (hB'.cell (p := ⟨w.heap.size + 1, 0, none⟩) HQ.out.lt).trans hc
    refine ⟨.bool true, ?_, true, rfl, ?_, fun _ => rfl⟩
    · simp [results, Try.results32, go_sem, hr0]
    · exact hbW.trans (hB'.mono HW.out.size)

end Go.Proofs.Yticnklmpplicfaa
