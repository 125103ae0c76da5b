/- The state of a network in memory, and what is kept of it where some of its blocks are written. -/
import Derived.Test.YticnklmpplicfaaNB
namespace Go.Proofs.Yticnklmpplicfaa
open Go.RowKit

/-- A packet: its bytes lie at an address, with a capacity. -/
structure Pk where
  fr : ByteArray
  to : ByteArray
  a : Option Addr
  cap : Nat
  bs : List Int
def Pk.v (p : Pk) : Value := .slice p.a p.bs.length p.cap
def Pk.cells (p : Pk) : List Value := [.string p.fr, .string p.to, p.v]
structure Fl where
  p : Pk
  id : Int
  src : Int
def Fl.cells (f : Fl) : List Value := [.string f.p.fr, .string f.p.to, f.p.v, .int .i64 f.id, .int .i64 f.src]
structure Ev where
  kind : Int
  id : Int
  fr : Int
def Ev.cells (x : Ev) : List Value := [.int .i64 x.kind, .int .i64 x.id, .int .i64 x.fr]
def pkCells (l : List Pk) : List Value := l.flatMap Pk.cells
def flCells (l : List Fl) : List Value := l.flatMap Fl.cells
def evCells (l : List Ev) : List Value := l.flatMap Ev.cells

/-- The state of a network, with the places of its rows. -/
structure CS where
  ha : Option Addr
  hc : Nat
  fa : Option Addr
  fc : Nat
  ea : Option Addr
  ec : Nat
  m : Option Nat
  next : Int
  H : List Pk
  F : List Fl
  E : List Ev
  L : List ((ByteArray × ByteArray) × Bool)
def CS.hv (s : CS) : Value := .slice s.ha s.H.length s.hc
def CS.fv (s : CS) : Value := .slice s.fa s.F.length s.fc
def CS.ev (s : CS) : Value := .slice s.ea s.E.length s.ec

/-- The element type of a block of cells. -/
def tyAt (w : World) (k : Nat) : Option TypeId := match w.heap[k]? with | some (.cells _ t _) => some t | _ => none
theorem Blk.ty {w : World} {g : Nat} {t : TypeId} {cs : Array Value} (h : Blk w g t cs) : tyAt w g = some t := by unfold Blk at h; simp [tyAt, h]
theorem own_ty {w : World} {e : TypeId} {size n : Nat} {v : Value} {xs : List Value} (h : w.ownsRow 0 e size v n xs) {k : Nat} (hk : v.ownBlock = some k) : tyAt w k = some e := by
  rcases h.2 with ⟨rfl, _⟩ | ⟨g, cap, cur, rfl, _, hg, _⟩
  · simp [Value.ownBlock] at hk
  · have : g = k := by simpa [Value.ownBlock] using hk
    subst this
    simp [tyAt, hg]

/-- The blocked pairs: nil, or a map of two strings to a bool. -/
def mapEntries (L : List ((ByteArray × ByteArray) × Bool)) (es : Array MapEntry) : Prop :=
  es.toList.map (fun e => (e.key, e.val)) = L.map (fun x => (Value.agg #[.string x.1.1, .string x.1.2], Value.bool x.2))
structure MapOk (w : World) (m : Option Nat) (L : List ((ByteArray × ByteArray) × Bool)) : Prop where
  nil_ : m = none → L = []
  some_ : ∀ k, m = some k → ∃ es clock, w.heap[k]? = some (.map es clock) ∧ mapEntries L es
theorem MapOk.ty {w : World} {m : Option Nat} {L : List ((ByteArray × ByteArray) × Bool)} (h : MapOk w m L) {k : Nat} (hk : m = some k) : tyAt w k = none ∧ k < w.heap.size := by
  obtain ⟨es, clock, hh, _⟩ := h.some_ k hk
  refine ⟨by simp [tyAt, hh], ?_⟩
  rcases Nat.lt_or_ge k w.heap.size with hlt | hge
  · exact hlt
  · rw [Array.getElem?_eq_none hge] at hh; cases hh
theorem MapOk.kept {S : Nat → Prop} {w w' : World} {m : Option Nat} {L : List ((ByteArray × ByteArray) × Bool)} (h : MapOk w m L) (hk : Kept S w w') (hn : ∀ k, m = some k → ¬ S k) : MapOk w' m L :=
  ⟨h.nil_, fun k hm => by
    obtain ⟨es, clock, hh, he⟩ := h.some_ k hm
    exact ⟨es, clock, by rw [hk.block k (h.ty hm).2 (hn k hm)]; exact hh, he⟩⟩

def Own0 (v : Value) (k : Nat) : Prop := v.ownBlock = some k
/-- The packets of a network. -/
def CS.pks (s : CS) : List Pk := s.H ++ s.F.map Fl.p
/-- The blocks that a network owns. -/
def Own (g : Nat) (s : CS) (k : Nat) : Prop := k = g ∨ s.hv.ownBlock = some k ∨ s.fv.ownBlock = some k ∨ s.ev.ownBlock = some k ∨ s.m = some k ∨ ∃ p ∈ s.pks, p.v.ownBlock = some k

/-- Block g is a network in a state. -/
structure Net (w : World) (g : Nat) (s : CS) : Prop where
  blk : Blk w g 63 #[s.hv, s.fv, .int .i64 s.next, .map s.m, s.ev]
  hist : w.ownsRow 0 67 3 s.hv s.H.length (pkCells s.H)
  fly : w.ownsRow 0 107 5 s.fv s.F.length (flCells s.F)
  evs : w.ownsRow 0 88 3 s.ev s.E.length (evCells s.E)
  map : MapOk w s.m s.L
  own : ∀ p ∈ s.pks, OwnB w p.v p.bs
  len : ∀ p ∈ s.pks, p.bs.length ≤ 65536
  sep : (s.pks.map Pk.v).Pairwise (fun u v => ∀ k, u.ownBlock = some k → v.ownBlock ≠ some k)

theorem Own.lt {w : World} {g : Nat} {s : CS} (h : Net w g s) {k : Nat} (hk : Own g s k) : k < w.heap.size := by
  rcases hk with rfl | hk | hk | hk | hk | ⟨p, hp, hk⟩
  · exact h.blk.lt
  · exact own_lt h.hist hk
  · exact own_lt h.fly hk
  · exact own_lt h.evs hk
  · exact (h.map.ty hk).2
  · exact own_lt (h.own p hp) hk

theorem Net.kept {S : Nat → Prop} {w w' : World} {g : Nat} {s : CS} (h : Net w g s) (hk : Kept S w w') (hn : ∀ k, Own g s k → ¬ S k) : Net w' g s where
  blk := h.blk.kept hk (hn g (.inl rfl))
  hist := own_kept h.hist hk fun k e => hn k (.inr (.inl e))
  fly := own_kept h.fly hk fun k e => hn k (.inr (.inr (.inl e)))
  evs := own_kept h.evs hk fun k e => hn k (.inr (.inr (.inr (.inl e))))
  map := h.map.kept hk fun k e => hn k (.inr (.inr (.inr (.inr (.inl e)))))
  own := fun p hp => own_kept (h.own p hp) hk fun k e => hn k (.inr (.inr (.inr (.inr (.inr ⟨p, hp, e⟩)))))
  len := h.len
  sep := h.sep
theorem Net.below {w w' : World} {g : Nat} {s : CS} (h : Net w g s) (hb : Below w.heap.size w w') : Net w' g s :=
  h.kept (S := fun _ => False) (Kept.of_below hb) (fun _ _ h => h)
theorem Net.alloc {w : World} {g : Nat} {s : CS} (h : Net w g s) (o : Obj) : Net (w.alloc o) g s := h.below (nbelow1 w o)
theorem Net.drew {w : World} {g : Nat} {s : CS} (h : Net w g s) : Net w.drew g s := h.kept (S := fun _ => False) (Kept.refl _ _).drew (fun _ _ h => h)

theorem pkCells_snoc (l : List Pk) (p : Pk) : pkCells (l ++ [p]) = pkCells l ++ p.cells := by simp [pkCells]
theorem flCells_snoc (l : List Fl) (p : Fl) : flCells (l ++ [p]) = flCells l ++ p.cells := by simp [flCells]
theorem evCells_snoc (l : List Ev) (p : Ev) : evCells (l ++ [p]) = evCells l ++ p.cells := by simp [evCells]

theorem Try.info107 : (Try.prog.info? 107).map (fun i => (i.zero, i.size, i.bytes)) = some (some (.agg #[.string ByteArray.empty, .string ByteArray.empty, .slice none 0 0, .int .i64 0, .int .i64 0]), 5, 72) := by kernel_rfl
theorem Try.info67 : (Try.prog.info? 67).map (fun i => (i.zero, i.size, i.bytes)) = some (some (.agg #[.string ByteArray.empty, .string ByteArray.empty, .slice none 0 0]), 3, 56) := by kernel_rfl
theorem Try.info88 : (Try.prog.info? 88).map (fun i => (i.zero, i.size, i.bytes)) = some (some (.agg #[.int .i64 0, .int .i64 0, .int .i64 0]), 3, 24) := by kernel_rfl

/-- The step from one state to the next: what has been written, what is owned behind it. -/
structure Step (g : Nat) (w : World) (s : CS) (w' : World) (s' : CS) : Prop where
  net : Net w' g s'
  kept : Kept (Own g s) w w'
  own : ∀ k, Own g s' k → Own g s k ∨ w.heap.size ≤ k
theorem Step.refl {g : Nat} {w w' : World} {s : CS} (h : Net w g s) (hb : Below w.heap.size w w') : Step g w s w' s := ⟨h.below hb, .of_below hb, fun _ h => .inl h⟩
theorem Step.trans {g : Nat} {w w' w'' : World} {s s' s'' : CS} (h : Step g w s w' s') (k : Step g w' s' w'' s'') : Step g w s w'' s'' where
  net := k.net
  kept := h.kept.trans' k.kept fun i hi ho => (h.own i ho).resolve_right (by omega)
  own := fun i hi => by
    rcases k.own i hi with h1 | h1
    · exact h.own i h1
    · exact .inr (Nat.le_trans h.kept.size h1)
theorem Step.pre {g : Nat} {w w0 w' : World} {s s' : CS} (hb : Below w.heap.size w w0) (k : Step g w0 s w' s') : Step g w s w' s' where
  net := k.net
  kept := (Kept.of_below hb).trans k.kept
  own := fun i hi => (k.own i hi).imp id (Nat.le_trans hb.size)
theorem Step.post {g : Nat} {w w0 w' : World} {s s' : CS} (k : Step g w s w0 s') (hb : Below w0.heap.size w0 w') : Step g w s w' s' where
  net := k.net.below hb
  kept := k.kept.trans (Kept.of_below hb)
  own := k.own

end Go.Proofs.Yticnklmpplicfaa
