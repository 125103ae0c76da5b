/- The contract of the events' iterator. -/
import Derived.RangeFuncBox
import Derived.RangeFuncNested
import Derived.RangeFuncLeaves
import Derived.Shelf.Abstract
import Derived.WalkKit
import Derived.OwnWalkIn
import Derived.TacticsInMore
import Derived.LoopNIn
import Derived.LoopIn
import Derived.Test.YticnklmpplicfaaNT
namespace Go.Proofs.Yticnklmpplicfaa
open Go.RowKit Go.Shelf

attribute [local go_sem] Oper.semAt_some

/-- What has come when k rounds are over. -/
def upto {α : Type} (f : Nat → α) (k : Nat) : List α := (List.range k).map f
theorem upto_succ {α : Type} (f : Nat → α) (k : Nat) : upto f (k + 1) = upto f k ++ [f k] := by simp [upto, List.range_succ]
theorem upto_length {α : Type} (f : Nat → α) (k : Nat) : (upto f k).length = k := by simp [upto]
def intV : Value → Int | .int _ q => q | _ => 0

/-- The blocks from N to M lie as they lay. -/
structure Mid (N M : Nat) (A B : World) : Prop where
  size : A.heap.size ≤ B.heap.size
  block : ∀ k, N ≤ k → k < M → B.heap[k]? = A.heap[k]?
theorem Mid.refl (N M : Nat) (A : World) : Mid N M A A := ⟨Nat.le_refl _, fun _ _ _ => rfl⟩
theorem Mid.trans {N M : Nat} {A B C : World} (h : Mid N M A B) (k : Mid N M B C) : Mid N M A C := ⟨Nat.le_trans h.size k.size, fun i h1 h2 => (k.block i h1 h2).trans (h.block i h1 h2)⟩
theorem Mid.alloc {N M : Nat} {A B : World} (h : Mid N M A B) (hM : M ≤ B.heap.size) (o : Obj) : Mid N M A (B.alloc o) :=
  h.trans ⟨by simp, fun k _ hk => Below.heap_alloc B o k (by omega)⟩
theorem Mid.cell {N M : Nat} {A B : World} (h : Mid N M A B) {p : Addr} (h1 : N ≤ p.block) (h2 : p.block < M) : B.cell? p = A.cell? p := World.cell?_of_block (h.block _ h1 h2)
theorem Mid.setCell {N M : Nat} {A B : World} (h : Mid N M A B) {p : Addr} (hp : p.block < N ∨ M ≤ p.block) (u : Value) : Mid N M A (B.setCell p u) :=
  h.trans ⟨by simp [World.setCell], fun k h1 h2 => Below.heap_setCell B p u k (by rintro rfl; omega)⟩
theorem Mid.below {N M : Nat} {A B : World} (h : Below M A B) : Mid N M A B := ⟨h.size, fun k _ h2 => h.block k h2⟩
theorem mid_b {N M : Nat} {W : World} {l : Nat} {o' : Obj} (h : M ≤ l) : Mid N M W (W.putObj l o') :=
  ⟨by simp, fun k _ hk => World.putObj_heap_other (by omega)⟩

set_option maxRecDepth 100000 in
set_option maxHeartbeats 2000000 in
theorem ev1_in (F : Fence) (n : Nat) (h7 : F.fn 65) (hro : F.round = none) (hn : 1 ≤ n) (l Bs N n₀ b len cap : Nat) (zf : Nat → Ev) (hreach : len * 24 ≤ 140737488351232) (hb : b < n₀) (hbN : N ≤ b) (J Jx : List (Nat × Ev) → World → Prop)
    (W : World) (hW0 : n₀ ≤ W.heap.size) (hJ : AbidesFrom W.heap.size J)
    (hY : ∀ pre x W, J pre W → pre.length < len → YieldAt F (n - 1) Try.prog l #[.int .i64 (x.1 : Int), .agg #[.int .i64 x.2.kind, .int .i64 x.2.id, .int .i64 x.2.fr]] W fun e W' =>
      (e = .returned (.bool true) ∧ J (pre ++ [x]) W' ∧ Mid N n₀ W W') ∨ (e = .returned (.bool false) ∧ Jx (pre ++ [x]) W'))
    (hBs : W.cell? ⟨Bs, 0, none⟩ = some (.slice (some ⟨b, 0, none⟩) len cap)) (hc : ∀ j, j < len → W.cell? ⟨b, j * 3, none⟩ = some (.int .i64 (zf j).kind) ∧ W.cell? ⟨b, j * 3 + 1, none⟩ = some (.int .i64 (zf j).id) ∧ W.cell? ⟨b, j * 3 + 2, none⟩ = some (.int .i64 (zf j).fr)) (h0 : J [] W) :
    CallsIn F n Try.prog 65 #[.func (.yield l) #[] #[], .pointer (some ⟨Bs, 0, none⟩)] W fun e W' => (∃ v, e = .returned v) ∧
      ((∃ ys, ys = upto (fun j => (j, zf j)) len ∧ J ys W') ∨ (∃ pre, (∃ k, k ≤ len ∧ pre = upto (fun j => (j, zf j)) k) ∧ Jx pre W')) := by
  refine callsIn_of_wp Try.func65 rfl h7 ?_ hro
  simp only [Try.ntmps65, List.size_toArray, List.length_cons, List.length_nil, Nat.reduceAdd, Nat.reduceSub, Array.replicate_succ, Array.replicate_zero, List.push_toArray, List.append_toArray, List.nil_append, List.cons_append]
  gi_wp2
  gi_loopw [3, 4, 7] (fun _ _ i wr => ∃ k : Nat, k ≤ len ∧ i = .int .i64 k ∧ J (upto (fun j => (j, zf j)) k) wr ∧ Mid N n₀ W wr)
    (fun _ _ i _ => len - (intV i).toNat)
  case atStart => exact ⟨0, Nat.zero_le _, rfl, h0, Mid.refl _ _ _⟩
  case round =>
    obtain ⟨k, hk, rfl, hJs, hnx⟩ := hrel
    by_cases hlt : k < len
    · have hs := hnx.size
      have hc0 := (hnx.cell (p := ⟨b, k * 3, none⟩) hbN hb).trans (hc k hlt).1
      have hc1 := (hnx.cell (p := ⟨b, k * 3 + 1, none⟩) hbN hb).trans (hc k hlt).2.1
      have hc2 := (hnx.cell (p := ⟨b, k * 3 + 2, none⟩) hbN hb).trans (hc k hlt).2.2
      obtain ⟨fn, tmps, assign, body, hy, hR⟩ := hY _ (k, zf k) (wr.alloc (.cells #[.int .i64 (zf k).kind, .int .i64 (zf k).id, .int .i64 (zf k).fr] 88)) (hJ _ _ _ none hJs (World.grownBy_alloc wr _ none) (fun r e => by cases e)) (by rw [upto_length]; exact hlt)
      dsimp only at hy
      generalize hz : zf k = z at hc0 hc1 hc2 hy hR
      have HZ := Lib.hid hz
      clear hz
      gi_wp2
      refine hR.mono ?_
      rintro e W3 (⟨rfl, hJ3, hk3⟩ | ⟨rfl, hJx3⟩)
      · gi_wp2
        go_roundw
        case rel => exact ⟨k + 1, by omega, by simp, by rw [upto_succ, HZ.out]; exact hJ3, (hnx.alloc (by omega) _).trans hk3⟩
        case measure => simp [intV]; omega
      · gi_wp2
        refine bodyPost_ret (results_none rfl _ _ _) rfl ?_
        exact ⟨⟨_, rfl⟩, .inr ⟨_, ⟨k + 1, by omega, by rw [upto_succ, HZ.out]⟩, hJx3⟩⟩
    · obtain rfl : k = len := by omega
      gi_wp2
      go_end0
      exact ⟨⟨_, rfl⟩, .inl ⟨_, rfl, hJs⟩⟩

set_option maxRecDepth 100000 in
set_option maxHeartbeats 1000000 in
theorem ev1_nil_in (F : Fence) (n : Nat) (h7 : F.fn 65) (hro : F.round = none) (l Bs : Nat) (a : Option Addr) (cap : Nat) (J : List (Nat × Ev) → World → Prop) (W : World) (hBs : W.cell? ⟨Bs, 0, none⟩ = some (.slice a 0 cap)) (h0 : J [] W) :
    CallsIn F n Try.prog 65 #[.func (.yield l) #[] #[], .pointer (some ⟨Bs, 0, none⟩)] W fun e W' => (∃ v, e = .returned v) ∧ J [] W' := by
  refine callsIn_of_wp Try.func65 rfl h7 ?_ hro
  simp only [Try.ntmps65, List.size_toArray, List.length_cons, List.length_nil, Nat.reduceAdd, Nat.reduceSub, Array.replicate_succ, Array.replicate_zero, List.push_toArray, List.append_toArray, List.nil_append, List.cons_append]
  gi_wp2
  gi_loopw [3, 4, 7] (fun _ _ i wr => i = .int .i64 0 ∧ J [] wr) (fun _ _ _ _ => 0)
  case atStart => exact ⟨rfl, h0⟩
  case round =>
    obtain ⟨rfl, hJs⟩ := hrel
    gi_wp2
    go_end0
    exact ⟨⟨_, rfl⟩, hJs⟩

/-- The events with their places. -/
def evSeq (E : List Ev) : List (Nat × Ev) := upto (fun j => (j, E.getD j ⟨0, 0, 0⟩)) E.length

theorem ev_stops (F : Fence) (n : Nat) (h7 : F.fn 65) (hro : F.round = none) (hn : 1 ≤ n) (Bs N : Nat) (a : Option Addr) (c : Nat) (E : List Ev) (hreach : E.length ≤ 1000000) (w : World)
    (hB : Blk w Bs 61 #[.slice a E.length c]) (ho : w.ownsRow 0 88 3 (.slice a E.length c) E.length (evCells E)) (hN : ∀ k, (Value.slice a E.length c).ownBlock = some k → N ≤ k) :
    SeqStopsK F n Try.prog 65 #[.pointer (some ⟨Bs, 0, none⟩)] (fun x : Nat × Ev => #[.int .i64 (x.1 : Int), .agg #[.int .i64 x.2.kind, .int .i64 x.2.id, .int .i64 x.2.fr]]) (Mid N w.heap.size) (fun ys => ys = evSeq E)
      (fun _ => True) E.length w := fun l J Jx W hW hJ _ hY h0 => by
  have hc' : W.cell? ⟨Bs, 0, none⟩ = some (.slice a E.length c) := (hW.cell (p := ⟨Bs, 0, none⟩) hB.lt).trans (hB.cell 0)
  rcases Nat.eq_zero_or_pos E.length with hz | hz
  · have hE : E = [] := List.eq_nil_of_length_eq_zero hz
    subst hE
    exact (ev1_nil_in F n h7 hro l Bs a c J W hc' h0).mono fun e W' ⟨he, hj⟩ => ⟨he, .inl ⟨_, rfl, hj⟩⟩
  · obtain ⟨b, rfl, hb, _, _, hx⟩ := own_at ho hz
    refine (ev1_in F n h7 hro hn l Bs N w.heap.size b E.length c (fun j => E.getD j ⟨0, 0, 0⟩) (by omega) hb (hN b rfl) J Jx W hW.size hJ hY hc' (fun j hj => ?_) h0).mono ?_
    · have hg : E[j]? = some (E.getD j ⟨0, 0, 0⟩) := by simp [hj]
      have hcell : ∀ i u, (Ev.cells (E.getD j ⟨0, 0, 0⟩))[i]? = some u → i < 3 → W.cell? ⟨b, j * 3 + i, none⟩ = some u := fun i u hu hi =>
        (hW.cell (p := ⟨b, j * 3 + i, none⟩) hb).trans (hx _ _ (by rw [evCells, flat_get Ev.cells 3 (fun _ => rfl) _ _ _ _ hg hi]; exact hu)).1
      exact ⟨hcell 0 _ rfl (by omega), hcell 1 _ rfl (by omega), hcell 2 _ rfl (by omega)⟩
    · rintro e W' ⟨he, ⟨ys, rfl, hj⟩ | ⟨pre, _, hj⟩⟩
      · exact ⟨he, .inl ⟨_, rfl, hj⟩⟩
      · exact ⟨he, .inr ⟨_, trivial, hj⟩⟩

/-- The range over a function whose loop variables are not used. -/
theorem range_skip {F : Fence} {n : Nat} {P : Program} {α : Type} {g : Operand} {ps : Array Tmp} {body : Code} {Q : Exit → Act → World → Prop} {a : Act} {w : World}
    (hro : F.round = none) (h1 : 1 ≤ n) {gf : Nat} {lb : Array Value} (hg : a.eval g = .func (.func gf) #[] lb) (hFg : F.fn gf) (eg : ∀ args w, (callFunc gf args).run P w = .ok (.enter gf args) w)
    {encs : α → Array Value} {Kp : World → World → Prop} {S Sp : List α → Prop} {N : Nat} {w0 : World} (hseq : SeqStopsK F (n - 1) P gf lb encs Kp S Sp N w0)
    (hKt : ∀ {A B C : World}, Kp A B → Kp B C → Kp A C) (hKb : ∀ (W : World) (l : Nat) (o o' : Obj), w.heap.size ≤ l → W.heap[l]? = some o → o.isCells = false → o.isWalk = false → Kp W (W.putObj l o')) (hb0 : Below w0.heap.size w0 w) (hps : ∀ x, (encs x).size = ps.size)
    (I : List α → World → Prop) (Ix : Code → List α → World → Prop) (hI : OwnFrom w.heap.size I) (hIx : ∀ c, OwnFrom w.heap.size (Ix c)) (h0 : I [] w)
    (hbody : ∀ (l : Nat) (pre : List α) (x : α) (W : World), I pre W → pre.length < N → body.wpIn (F.inRound l) (n - 1 - 1) P (ownPostK Kp I Ix (pre ++ [x]) W) { tmps := (ps.zip (encs x)).foldl (fun t (p, v) => t.setIfInBounds p v) a.tmps, defers := [] } W)
    (hdone : ∀ (D : Nat) (xs : List α) (W : World), w.heap.size ≤ D → S xs → I xs W → W.heap[D]? = some (.deferred (some [])) → Q .normal { a with defers := { target := .collected D, args := #[] } :: a.defers } W)
    (hstop : ∀ (D : Nat) (c : Code) (pre : List α) (W : World), w.heap.size ≤ D → Sp pre → Ix c pre W → W.heap[D]? = some (.deferred (some [])) → c.wpIn F n P Q { a with defers := { target := .collected D, args := #[] } :: a.defers } W) :
    (Code.rangeFunc g ps Code.skip body).wpIn F n P Q a w :=
  wpIn_rangeFunc_ownF hro h1 hg hFg eg hseq hKt hKb hb0 hps I Ix hI hIx h0 (fun x => { tmps := (ps.zip (encs x)).foldl (fun t (p, v) => t.setIfInBounds p v) a.tmps, defers := [] })
    (fun _ _ _ _ hK => wpIn_skip hK) hbody hdone hstop

end Go.Proofs.Yticnklmpplicfaa
