/- What holds between two calls, in memory. -/
import Derived.Test.YticnklmpplicfaaO5
namespace Go.Proofs.Yticnklmpplicfaa
open Go.RowKit

theorem Acts.below {w w' : World} {b off n : Nat} {A : Nat → ActV} (h : Acts w b off n A) (hb : Below w.heap.size w w') : Acts w' b off n A :=
  fun j hj i u hu => (hb.cell (p := ⟨b, off + j * 7 + i, none⟩) (ncell_lt (h j hj i u hu))).trans (h j hj i u hu)
theorem Actz.below {w w' : World} {a : Option Addr} {n cap : Nat} {A : Nat → ActV} (h : Actz w a n cap A) (hb : Below w.heap.size w w') : Actz w' a n cap A :=
  ⟨h.len, h.cap, fun h0 => by
    obtain ⟨b, off, e, hA⟩ := h.at_ h0
    exact ⟨b, off, e, hA.below hb⟩, h.sz, fun j hj => by
    obtain ⟨bs, e, hr⟩ := h.rd j hj
    exact ⟨bs, e, hr.below hb⟩⟩
theorem rd_lt {w : World} {v : Value} {bs : List Int} (h : Rd w v bs) (h0 : 0 < bs.length) {k : Nat} (hk : v.ownBlock = some k) : k < w.heap.size := by
  obtain ⟨b, off, c, rfl, hc⟩ := h.cells h0
  have : b = k := by simpa [Value.ownBlock] using hk
  subst this
  exact ncell_lt (hc 0 h0)

/-- What holds between two calls. -/
structure LI (w0 : World) (hon : Bool) (k : Nat) (s : CS) (wr : World) : Prop where
  net : Net wr (w0.heap.size + 1) s
  below : Below w0.heap.size w0 wr
  own : ∀ q, Own (w0.heap.size + 1) s q → q = w0.heap.size + 1 ∨ w0.heap.size + 4 ≤ q
  cr : Blk wr w0.heap.size 4 #[.bool false]
  cp : Blk wr (w0.heap.size + 1 + 1) 57 #[.pointer (some ⟨w0.heap.size + 1, 0, none⟩)]
  ch : Blk wr (w0.heap.size + 1 + 1 + 1) 4 #[.bool hon]
  inv : LInv hon k s

theorem li_start (w : World) : LI w true 0 CS.start ((((w.alloc (.cells #[.bool false] 4)).alloc (.cells #[.slice none 0 0, .slice none 0 0, .int .i64 0, .map none, .slice none 0 0] 63)).alloc (.cells #[.pointer (some ⟨w.heap.size + 1, 0, none⟩)] 57)).alloc (.cells #[.bool true] 4)) := by
  have hN := Net.start (w.alloc (.cells #[.bool false] 4))
  rw [show (w.alloc (.cells #[.bool false] 4)).heap.size = w.heap.size + 1 by simp] at hN
  refine ⟨(hN.alloc _).alloc _, nbelow_alloc (nbelow_alloc (nbelow_alloc (nbelow1 _ _) _) _) _, ?_, ((Blk.new w _ _).alloc _ |>.alloc _).alloc _, (Blk.new' _ _ _ _ (by simp)).alloc _, Blk.new' _ _ _ _ (by simp), ?_⟩
  · rintro q (e | e | e | e | e | ⟨p, hp, _⟩)
    · exact .inl e
    · cases e
    · cases e
    · cases e
    · cases e
    · cases hp
  · exact ⟨(fun x hx => by cases hx), rfl, by decide, by decide, by decide, by decide, by decide, List.Pairwise.nil, (fun f hf => by cases hf), (fun f hf => by cases hf), (fun f hf => by cases hf), (fun f hf => by cases hf), (fun _ f hf => by cases hf)⟩

/-- What holds while a call is on. -/
structure LX (w0 : World) (hon : Bool) (s : CS) (B : Nat) (x : ActV) (wx : World) : Prop where
  net : Net wx (w0.heap.size + 1) s
  below : Below w0.heap.size w0 wx
  own : ∀ q, Own (w0.heap.size + 1) s q → q = w0.heap.size + 1 ∨ (w0.heap.size + 4 ≤ q ∧ q ≠ B)
  cr : Blk wx w0.heap.size 4 #[.bool false]
  cp : Blk wx (w0.heap.size + 1 + 1) 57 #[.pointer (some ⟨w0.heap.size + 1, 0, none⟩)]
  ch : Blk wx (w0.heap.size + 1 + 1 + 1) 4 #[.bool hon]
  bx : Blk wx B 73 #[.int .i64 x.what, .int .i64 x.id, .int .i64 x.off, .int .u8 x.mask, .string x.fr, .string x.to, .slice x.a x.len x.cap]
  far : w0.heap.size + 4 ≤ B

theorem lx_of {w0 wr : World} {hon hon' : Bool} {k : Nat} {s : CS} {x : ActV} (I : LI w0 hon k s wr) :
    LX w0 hon' s wr.heap.size x ((wr.setCell ⟨w0.heap.size + 1 + 1 + 1, 0, none⟩ (.bool hon')).alloc (.cells #[.int .i64 x.what, .int .i64 x.id, .int .i64 x.off, .int .u8 x.mask, .string x.fr, .string x.to, .slice x.a x.len x.cap] 73)) := by
  have h4 := I.ch.lt
  have hK : Kept (fun q => q = w0.heap.size + 1 + 1 + 1) wr ((wr.setCell ⟨w0.heap.size + 1 + 1 + 1, 0, none⟩ (.bool hon')).alloc (.cells #[.int .i64 x.what, .int .i64 x.id, .int .i64 x.off, .int .u8 x.mask, .string x.fr, .string x.to, .slice x.a x.len x.cap] 73)) :=
    ((Kept.refl (fun q => q = w0.heap.size + 1 + 1 + 1) wr).setCell (p := ⟨w0.heap.size + 1 + 1 + 1, 0, none⟩) (.inl rfl) _).alloc _
  refine ⟨I.net.kept hK fun q hq e => ?_, nbelow_alloc (I.below.setCell (by simp; omega) _) _, fun q hq => ?_, I.cr.kept hK (by omega), I.cp.kept hK (by omega), ?_, ?_, by omega⟩
  · rcases I.own q hq with e' | e'
    · omega
    · omega
  · rcases I.own q hq with e' | e'
    · exact .inl e'
    · exact .inr ⟨e', by have := Own.lt I.net hq; omega⟩
  · have := (I.ch.set_ 0 (.bool hon')).alloc (.cells #[.int .i64 x.what, .int .i64 x.id, .int .i64 x.off, .int .u8 x.mask, .string x.fr, .string x.to, .slice x.a x.len x.cap] 73)
    simpa using this
  · exact Blk.new' _ _ _ _ (by simp [World.setCell])

theorem LX.step {w0 wx w' : World} {hon : Bool} {s s' : CS} {B : Nat} {x : ActV} (J : LX w0 hon s B x wx) (S : Step (w0.heap.size + 1) wx s w' s') : LX w0 hon s' B x w' := by
  have hn : ∀ q, q ≠ w0.heap.size + 1 → (q < w0.heap.size + 4 ∨ q = B) → ¬ Own (w0.heap.size + 1) s q := fun q h1 h2 h3 => by
    rcases J.own q h3 with e | e
    · omega
    · omega
  have hz := J.bx.lt
  have hf := J.far
  refine ⟨S.net, J.below.trans (S.kept.below J.below.size fun q hq => ?_), fun q hq => ?_, J.cr.kept S.kept (hn _ (by omega) (by omega)), J.cp.kept S.kept (hn _ (by omega) (by omega)), J.ch.kept S.kept (hn _ (by omega) (by omega)), J.bx.kept S.kept (hn _ (by omega) (by omega)), J.far⟩
  · rcases J.own q hq with e | e
    · omega
    · omega
  · rcases S.own q hq with h | h
    · exact J.own q h
    · exact .inr ⟨by omega, by omega⟩
theorem LX.past {w0 wx w' : World} {hon : Bool} {s : CS} {B : Nat} {x : ActV} (J : LX w0 hon s B x wx) (hb : Below wx.heap.size wx w') : LX w0 hon s B x w' := J.step (.refl J.net hb)
theorem LX.next {w0 wx w' : World} {hon : Bool} {k : Nat} {s s' : CS} {B : Nat} {x : ActV} (J : LX w0 hon s B x wx) (S : Step (w0.heap.size + 1) wx s w' s') (L : LInv hon k s') : LI w0 hon k s' w' := by
  have J' := J.step S
  exact ⟨J'.net, J'.below, fun q hq => (J'.own q hq).imp id And.left, J'.cr, J'.cp, J'.ch, L⟩
theorem LX.end_ {w0 wx : World} {hon : Bool} {k : Nat} {s : CS} {B : Nat} {x : ActV} (J : LX w0 hon s B x wx) (L : LInv hon k s) : LI w0 hon k s wx :=
  ⟨J.net, J.below, fun q hq => (J.own q hq).imp id And.left, J.cr, J.cp, J.ch, L⟩

theorem LX.f {w0 wx : World} {hon : Bool} {s : CS} {B : Nat} {x : ActV} (J : LX w0 hon s B x wx) : wx.cell? ⟨w0.heap.size + 1 + 1, 0, none⟩ = some (.pointer (some ⟨w0.heap.size + 1, 0, none⟩)) ∧
    wx.cell? ⟨B, 0, none⟩ = some (.int .i64 x.what) ∧ wx.cell? ⟨B, 1, none⟩ = some (.int .i64 x.id) ∧ wx.cell? ⟨B, 2, none⟩ = some (.int .i64 x.off) ∧ wx.cell? ⟨B, 3, none⟩ = some (.int .u8 x.mask) ∧
    wx.cell? ⟨B, 4, none⟩ = some (.string x.fr) ∧ wx.cell? ⟨B, 5, none⟩ = some (.string x.to) ∧ wx.cell? ⟨B, 6, none⟩ = some (.slice x.a x.len x.cap) ∧ w0.heap.size + 1 + 1 < wx.heap.size ∧ B < wx.heap.size :=
  ⟨J.cp.cell 0, J.bx.cell 0, J.bx.cell 1, J.bx.cell 2, J.bx.cell 3, J.bx.cell 4, J.bx.cell 5, J.bx.cell 6, J.cp.lt, J.bx.lt⟩

def nhB (hon : Bool) (q : Int) : Bool := hon && (decide (q ≠ 2) && (decide (q ≠ 8) && decide (q ≠ 9)))

theorem nh_le {hon : Bool} {q : Int} (h : nhB hon q = true) : hon = true := by
  simp [nhB] at h
  exact h.1

end Go.Proofs.Yticnklmpplicfaa
