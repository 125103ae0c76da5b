/- A range over a function of two results whose assign stage fills one slot more; what Flight and Events leave in memory. -/
import Derived.Test.YticnklmpplicfaaO6
namespace Go.Proofs.Yticnklmpplicfaa
open Go.RowKit Go.Shelf

theorem range_two {α : Type} {n : Nat} {g : Operand} {p q r : Tmp} {assign body : Code} {Q : Exit → Act → World → Prop} {a : Act} {w : World} (h1 : 1 ≤ n) {gf : Nat} {lb : Array Value}
    (hg : a.eval g = .func (.func gf) #[] lb) (eg : ∀ args w, (callFunc gf args).run Try.prog w = .ok (.enter gf args) w)
    {e1 e2 : α → Value} {Fx : α → World → Prop} {Kp : World → World → Prop} {S : List α → Prop} {N : Nat} {w0 : World} (hseq : SeqFx (n - 1) gf lb (fun x => #[e1 x, e2 x]) Fx Kp S N w0)
    (hKt : ∀ {A B C : World}, Kp A B → Kp B C → Kp A C) (hKb : ∀ (W : World) (l : Nat) (o o' : Obj), w.heap.size ≤ l → W.heap[l]? = some o → o.isCells = false → o.isWalk = false → Kp W (W.putObj l o'))
    (hb0 : Below w0.heap.size w0 w) (I : List α → World → Prop) (hI : OwnFrom w.heap.size I) (h0 : I [] w)
    (ax : α → Nat → Value) (Bx : α → Nat → World → Prop) (hBx : ∀ x D, OwnFrom w.heap.size (fun (_ : Unit) W => Bx x D W))
    (hassign : ∀ (l : Nat) (pre : List α) (x : α) (W : World) (K : Act → World → Prop), I pre W → Fx x W →
      (∀ D W₁, KeepsOthers W W₁ → Kp W W₁ → I pre W₁ → Bx x D W₁ → K { tmps := ((a.tmps.setIfInBounds p (e1 x)).setIfInBounds q (e2 x)).setIfInBounds r (ax x D), defers := [] } W₁) →
      assign.wpIn (Fence.wide.inRound l) (n - 1 - 1) Try.prog (Exit.then K (fun _ _ _ => False)) { tmps := (a.tmps.setIfInBounds p (e1 x)).setIfInBounds q (e2 x), defers := [] } W)
    (hbody : ∀ (l : Nat) (pre : List α) (x : α) (D : Nat) (W : World), I pre W → Bx x D W → pre.length < N →
      body.wpIn (Fence.wide.inRound l) (n - 1 - 1) Try.prog (ownPostK Kp I (fun _ _ _ => False) (pre ++ [x]) W) { tmps := ((a.tmps.setIfInBounds p (e1 x)).setIfInBounds q (e2 x)).setIfInBounds r (ax x D), defers := [] } W)
    (hdone : ∀ (D : Nat) (xs : List α) (W : World), w.heap.size ≤ D → S xs → I xs W → W.heap[D]? = some (.deferred (some [])) → Q .normal { a with defers := { target := .collected D, args := #[] } :: a.defers } W) :
    (Code.rangeFunc g #[p, q] assign body).wpIn Fence.wide n Try.prog Q a w := by
  refine range_fx h1 hg eg hseq hKt hKb hb0 (fun _ => rfl) I (fun _ _ _ => False) hI (fun _ _ _ _ _ h _ _ => h) h0
    (fun x a₁ W => ∃ D, a₁ = { tmps := ((a.tmps.setIfInBounds p (e1 x)).setIfInBounds q (e2 x)).setIfInBounds r (ax x D), defers := [] } ∧ Bx x D W) ?_ ?_ ?_ hdone ?_
  · rintro x a₁ u A B row ⟨D, h1, h2⟩ hgr hr
    exact ⟨D, h1, hBx x D u A B row h2 hgr hr⟩
  · intro l pre x W K hi hf hK
    have := hassign l pre x W K hi hf fun D W₁ k1 k2 k3 k4 => hK _ W₁ k1 k2 k3 ⟨D, rfl, k4⟩
    simpa using this
  · rintro l pre x a₁ W hi ⟨D, rfl, hB⟩ hl
    exact hbody l pre x D W hi hB hl
  · intro D c pre W _ h _
    exact h.elim

theorem SeqFx.weak {α : Type} {n g : Nat} {lb : Array Value} {encs : α → Array Value} {Fx Fx' : α → World → Prop} {Kp : World → World → Prop} {S S' : List α → Prop} {N : Nat} {w : World} (h : SeqFx n g lb encs Fx Kp S N w)
    (hF : ∀ x W, Fx x W → Fx' x W) (hS : ∀ xs, S xs → S' xs) : SeqFx n g lb encs Fx' Kp S' N w := fun l J Jx W h1 h2 h3 hY h0 =>
  (h l J Jx W h1 h2 h3 (fun pre x W1 hj hf hl => hY pre x W1 hj (hF x W1 hf) hl) h0).mono fun _ _ ⟨he, hq⟩ => ⟨he, hq.imp (fun ⟨xs, hs, hj⟩ => ⟨xs, hS xs hs, hj⟩) id⟩

/-- What Flight leaves. -/
structure T37 (s : CS) (B : Nat) (a : Option Addr) (c : Nat) (F' : List Fl) (w' : World) : Prop where
  blk : Blk w' B 59 #[.slice a s.F.length c]
  row : w'.ownsRow 0 107 5 (.slice a s.F.length c) s.F.length (flCells F')
  num : F'.length = s.F.length
  ids : F'.map Fl.id = s.F.map Fl.id
  own : ∀ f ∈ F', OwnB w' f.p.v f.p.bs
  len : ∀ f ∈ F', f.p.bs.length ≤ 65536
theorem T37.below {s : CS} {B : Nat} {a : Option Addr} {c : Nat} {F' : List Fl} {w w' : World} (h : T37 s B a c F' w) (hb : Below w.heap.size w w') : T37 s B a c F' w' :=
  ⟨h.blk.below hb h.blk.lt, own_kept h.row (Kept.of_below (S := fun _ => False) hb) (fun _ _ h => h), h.num, h.ids, fun f hf => own_kept (h.own f hf) (Kept.of_below (S := fun _ => False) hb) (fun _ _ h => h), h.len⟩
theorem T37.seq {s : CS} {B : Nat} {a : Option Addr} {c : Nat} {F' : List Fl} {w : World} (h : T37 s B a c F' w) (n : Nat) (hn : 2 ≤ n) (hs : s.F.length ≤ 1000000) :
    SeqFx n 63 #[.pointer (some ⟨B, 0, none⟩)] (fun x : Int × Pk => #[.int .i64 x.1, .agg #[.string x.2.fr, .string x.2.to, x.2.v]]) (fun x _ => ∃ f ∈ s.F, x.1 = f.id) (Below w.heap.size) (fun ys => ys.length = s.F.length) s.F.length w := by
  have h0 := fl_stops n hn B a c F' (by rw [h.num]; exact hs) w (by rw [h.num]; exact h.blk) (by rw [h.num]; exact h.row) h.own h.len
  rw [h.num] at h0
  refine h0.weak (fun x W hx => ?_) (fun xs hx => hx.1)
  obtain ⟨-, f, hf, e⟩ := hx
  have hm : f.id ∈ s.F.map Fl.id := by rw [← h.ids]; exact List.mem_map_of_mem hf
  obtain ⟨f2, hf2, e2⟩ := List.mem_map.1 hm
  exact ⟨f2, hf2, by rw [e, e2]⟩

/-- What Events leaves. -/
structure T38 (s : CS) (B : Nat) (a : Option Addr) (c : Nat) (w' : World) : Prop where
  blk : Blk w' B 61 #[.slice a s.E.length c]
  row : w'.ownsRow 0 88 3 (.slice a s.E.length c) s.E.length (evCells s.E)
theorem T38.below {s : CS} {B : Nat} {a : Option Addr} {c : Nat} {w w' : World} (h : T38 s B a c w) (hb : Below w.heap.size w w') : T38 s B a c w' :=
  ⟨h.blk.below hb h.blk.lt, own_kept h.row (Kept.of_below (S := fun _ => False) hb) (fun _ _ h => h)⟩
theorem T38.seq {s : CS} {B : Nat} {a : Option Addr} {c : Nat} {w : World} (h : T38 s B a c w) (n : Nat) (hn : 1 ≤ n) (hs : s.E.length ≤ 1000000) :
    SeqFx n 65 #[.pointer (some ⟨B, 0, none⟩)] (fun x : Nat × Ev => #[.int .i64 (x.1 : Int), .agg #[.int .i64 x.2.kind, .int .i64 x.2.id, .int .i64 x.2.fr]]) (fun _ _ => True) (Mid 0 w.heap.size) (fun ys => ys = evSeq s.E) s.E.length w :=
  fun l J Jx W h1 h2 h3 hY h0 =>
  (ev_stops Fence.wide n trivial rfl hn B 0 a c s.E hs w h.blk h.row (fun k _ => Nat.zero_le k) l J Jx W h1 h2 h3 (fun pre x W1 hj hl => hY pre x W1 hj trivial hl) h0).mono fun _ _ ⟨he, hq⟩ => ⟨he, hq.imp id (fun ⟨pre, _, hj⟩ => ⟨pre, hj⟩)⟩

theorem LI.past {w0 wr w' : World} {hon : Bool} {k : Nat} {s : CS} (I : LI w0 hon k s wr) (hb : Below wr.heap.size wr w') : LI w0 hon k s w' :=
  ⟨I.net.below hb, nbelow_trans I.below hb, I.own, I.cr.below hb I.cr.lt, I.cp.below hb I.cp.lt, I.ch.below hb I.ch.lt, I.inv⟩

theorem drew_past {wr w2 : World} (hb : Below wr.drew.heap.size wr.drew w2) : Below wr.heap.size wr w2 := (nbelow_drew wr).trans hb
theorem cell_past {wr w2 : World} {p : Addr} {v : Value} (hb : Below wr.drew.heap.size wr.drew w2) (h : wr.cell? p = some v) : w2.cell? p = some v := ((drew_past hb).cell (p := p) (ncell_lt h)).trans h
theorem lt_past {wr w2 : World} {q : Nat} (hb : Below wr.drew.heap.size wr.drew w2) (h : q < wr.heap.size) : q < w2.heap.size := Nat.lt_of_lt_of_le h hb.size

/-- A region that does not panic. -/
theorem wp_still {P : Program} {c : Code} {K : Act → World → Prop} {Q : Exit → Act → World → Prop} {a : Act} {w : World} (h : c.wp P (Exit.then K (fun _ _ _ => False)) a w) : c.wp P (Exit.then K Q) a w :=
  Go.wp_mono h fun e a w hq => by cases e <;> first | exact hq | exact hq.elim

theorem bal_le (l : List Ev) : -(l.length : Int) ≤ bal l ∧ bal l ≤ l.length := by
  induction l with
  | nil => simp [bal]
  | cons x l ih =>
    have h : -1 ≤ wt x ∧ wt x ≤ 1 := by
      unfold wt
      split
      · omega
      · split <;> omega
    simp only [bal, List.length_cons]
    omega

theorem evSeq_snd (E : List Ev) : (evSeq E).map Prod.snd = E := by
  refine List.ext_getElem (by simp [evSeq, upto]) fun i h1 h2 => ?_
  simp [evSeq, upto]
  rw [List.getElem?_eq_getElem h2]
  rfl

theorem fi_mem {F : List Fl} {id : Int} (h : ∃ f ∈ F, id = f.id) : ∃ j, fi F id = some j := by
  obtain ⟨f, hf, rfl⟩ := h
  rcases hi : fi F f.id with _ | j
  · unfold fi at hi
    rw [List.findIdx?_eq_none_iff] at hi
    have := hi f hf
    simp at this
  · exact ⟨j, rfl⟩

theorem obj_fromI {β : Type} {n D : Nat} {o : Obj} (h : D < n) : OwnFrom n (fun (_ : β) W => W.heap[D]? = some o) :=
  fun _ _ _ _ hs hg hr => (hg.block D (Array.getElem?_eq_some_iff.1 hs).1 (fun e => by have := (hr D e.symm).1; omega)).trans hs
theorem blk_fromI {β : Type} {n g : Nat} {t : TypeId} {cs : β → Array Value} : OwnFrom n (fun (s : β) W => Blk W g t (cs s)) :=
  fun _ _ _ _ hs hg hr => (grownBy_keeps_cells hg (fun r e => (hr r e).2) hs rfl).trans hs

end Go.Proofs.Yticnklmpplicfaa
