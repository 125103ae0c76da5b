/- The contract of the flight's iterator. -/
import Derived.Test.YticnklmpplicfaaNX
import Derived.Stop.RegionWithIn
namespace Go.Proofs.Yticnklmpplicfaa
open Go.RowKit Go.Shelf

attribute [local go_sem] Oper.semAt_some

theorem yes_no {e : Ending} {A B : Prop} (h : (e = .returned (.bool true) ∧ A) ∨ (e = .returned (.bool false) ∧ B)) : ∃ r, e = .returned (.bool r) ∧ ((r = true ∧ A) ∨ (r = false ∧ B)) := by
  rcases h with ⟨h, a⟩ | ⟨h, b⟩
  · exact ⟨true, h, .inl ⟨rfl, a⟩⟩
  · exact ⟨false, h, .inr ⟨rfl, b⟩⟩
theorem box_grown {w w2 : World} {o : Obj} (hb : Below (w.alloc o).drew.heap.size (w.alloc o).drew w2) : w.grownBy w2 none :=
  ⟨hb.os, hb.tape, hb.output, Nat.le_trans (nbelow1 w o).size hb.size, fun q hq _ => (hb.block q (Nat.lt_of_lt_of_le hq (nbelow1 w o).size)).trans ((nbelow1 w o).block q hq)⟩
theorem box_below {w w2 : World} {o : Obj} (hb : Below (w.alloc o).drew.heap.size (w.alloc o).drew w2) : Below w.heap.size w w2 :=
  ⟨hb.os, hb.tape, hb.output, Nat.le_trans (nbelow1 w o).size hb.size, fun q hq => (hb.block q (Nat.lt_of_lt_of_le hq (nbelow1 w o).size)).trans ((nbelow1 w o).block q hq)⟩
theorem row_none {B : Nat} {A : World} : ∀ r, (none : Option Nat) = some r → B ≤ r ∧ ∃ o : Obj, A.heap[r]? = some o ∧ o.isWalk = true := fun r e => by cases e

/-- What has come: identifiers, and copies of the packets. -/
def CameF (zf : Nat → Fl) (k : Nat) (l : List (Int × Pk)) : Prop := l.length = k ∧ ∀ (j : Nat) (x : Int × Pk), l[j]? = some x → x.1 = (zf j).id ∧ x.2.like (zf j).p

theorem CameF.snoc {zf : Nat → Fl} {k : Nat} {l : List (Int × Pk)} {x : Int × Pk} (h : CameF zf k l) (h1 : x.1 = (zf k).id) (h2 : x.2.like (zf k).p) : CameF zf (k + 1) (l ++ [x]) := by
  refine ⟨by rw [List.length_append, h.1]; rfl, fun j y hy => ?_⟩
  rcases Nat.lt_or_ge j k with hj | hj
  · rw [List.getElem?_append_left (by rw [h.1]; exact hj)] at hy
    exact h.2 j y hy
  · rw [List.getElem?_append_right (by rw [h.1]; exact hj), h.1] at hy
    have hjk : j = k := by
      have := (List.getElem?_eq_some_iff.1 hy).1
      simp at this; omega
    subst hjk
    simp at hy
    subst hy
    exact ⟨h1, h2⟩
theorem box_cell {w w2 : World} {cs : Array Value} {t : TypeId} (hb : Below (w.alloc (.cells cs t)).drew.heap.size (w.alloc (.cells cs t)).drew w2) (i : Nat) {v : Value} (hv : cs[i]? = some v) : w2.cell? ⟨w.heap.size, i, none⟩ = some v :=
  (Blk.cell (((Blk.new w t cs).drew).below hb ((Blk.new w t cs).lt)) i).trans hv
theorem box_lt {w w2 : World} {o : Obj} (hb : Below (w.alloc o).drew.heap.size (w.alloc o).drew w2) : w.heap.size < w2.heap.size :=
  Nat.lt_of_lt_of_le (by simp [World.drew]) hb.size

set_option maxRecDepth 100000 in
set_option maxHeartbeats 2000000 in
theorem fl1_in (n : Nat) (hn : 2 ≤ n) (l Bs n₀ b len cap : Nat) (zf : Nat → Fl) (hreach : len ≤ 1000000) (hb : b < n₀) (J Jx : List (Int × Pk) → World → Prop)
    (W : World) (hW0 : n₀ ≤ W.heap.size) (hJ : AbidesFrom W.heap.size J)
    (hown : ∀ j, j < len → OwnB W (zf j).p.v (zf j).p.bs ∧ ∀ k, (zf j).p.v.ownBlock = some k → k < n₀) (hlen : ∀ j, j < len → (zf j).p.bs.length ≤ 65536)
    (hY : ∀ pre x W, J pre W → (Rd W x.2.v x.2.bs ∧ ∃ j, j < len ∧ x.1 = (zf j).id) → pre.length < len → YieldAt Fence.wide (n - 1) Try.prog l #[.int .i64 x.1, .agg #[.string x.2.fr, .string x.2.to, x.2.v]] W fun e W' =>
      (e = .returned (.bool true) ∧ J (pre ++ [x]) W' ∧ Below n₀ W W') ∨ (e = .returned (.bool false) ∧ Jx (pre ++ [x]) W'))
    (hBs : W.cell? ⟨Bs, 0, none⟩ = some (.slice (some ⟨b, 0, none⟩) len cap)) (hc : ∀ j, j < len → W.cell? ⟨b, j * 5, none⟩ = some (.string (zf j).p.fr) ∧ W.cell? ⟨b, j * 5 + 1, none⟩ = some (.string (zf j).p.to) ∧ W.cell? ⟨b, j * 5 + 2, none⟩ = some (zf j).p.v ∧ W.cell? ⟨b, j * 5 + 3, none⟩ = some (.int .i64 (zf j).id) ∧ W.cell? ⟨b, j * 5 + 4, none⟩ = some (.int .i64 (zf j).src)) (h0 : J [] W) :
    CallsIn Fence.wide n Try.prog 63 #[.func (.yield l) #[] #[], .pointer (some ⟨Bs, 0, none⟩)] W fun e W' => (∃ v, e = .returned v) ∧
      ((∃ ys, CameF zf len ys ∧ J ys W') ∨ (∃ pre, Jx pre W')) := by
  refine callsIn_of_wp Try.func63 rfl trivial ?_ rfl
  simp only [Try.ntmps63, List.size_toArray, List.length_cons, List.length_nil, Nat.reduceAdd, Nat.reduceSub, Array.replicate_succ, Array.replicate_zero, List.push_toArray, List.append_toArray, List.nil_append, List.cons_append]
  gi_wp2
  gi_loopw [4, 7] (fun _ i wr => ∃ (k : Nat) (ys : List (Int × Pk)), k ≤ len ∧ i = .int .i64 k ∧ CameF zf k ys ∧ J ys wr ∧ Below n₀ W wr)
    (fun _ i _ => len - (intV i).toNat)
  case atStart => exact ⟨0, [], Nat.zero_le _, rfl, ⟨rfl, fun j x h => by simp at h⟩, h0, Below.refl _ _⟩
  case round =>
    obtain ⟨k, ys, hk, rfl, hcm, hJs, hnx⟩ := hrel
    by_cases hlt : k < len
    · have hs := hnx.size
      have hc0 := (hnx.cell (p := ⟨b, k * 5, none⟩) hb).trans (hc k hlt).1
      have hc1 := (hnx.cell (p := ⟨b, k * 5 + 1, none⟩) hb).trans (hc k hlt).2.1
      have hc2 := (hnx.cell (p := ⟨b, k * 5 + 2, none⟩) hb).trans (hc k hlt).2.2.1
      have hc3 := (hnx.cell (p := ⟨b, k * 5 + 3, none⟩) hb).trans (hc k hlt).2.2.2.1
      have hc4 := (hnx.cell (p := ⟨b, k * 5 + 4, none⟩) hb).trans (hc k hlt).2.2.2.2
      have ho := own_kept (hown k hlt).1 (S := fun q => n₀ ≤ q) ⟨hnx.os, hnx.tape, hnx.output, hnx.size, fun q _ hq => hnx.block q (by omega)⟩ (fun q hq e => by have := (hown k hlt).2 q hq; omega)
      have hcl := Lib.hid (clone_any (zf k).p.fr (zf k).p.to _ (zf k).p.bs (wr.alloc (.cells #[.string (zf k).p.fr, .string (zf k).p.to, (zf k).p.v, .int .i64 (zf k).id, .int .i64 (zf k).src] 107)).drew ((OwnB.rd ho).alloc _).drew (hlen k hlt))
      unfold Pk.v at hc2 hcl
      have hlt' := hlt
      have h1n : 1 ≤ n := by omega
      have hcl2 : ys.length < len := by rw [hcm.1]; exact hlt
      have hYY := Lib.hid hY
      have hJJ := Lib.hid hJ
      clear hY hJ ho hc hown
      gi_wp2
      gi_region_with (first
        | (refine ⟨trivial, ?_⟩; gi_at_call 55; refine (callsIn_wide.2 hcl.out).mono ?_; rintro e w2 ⟨a1, c1, rfl, ho1, hb1, hf1⟩; have hgb := box_grown hb1; have y3 := box_cell hb1 3 (v := .int .i64 (zf k).id) rfl; have ly := box_lt hb1; obtain ⟨fn, tmps, assign, body, hy, hR⟩ := hYY.out ys ((zf k).id, ⟨(zf k).p.fr, (zf k).p.to, a1, c1, (zf k).p.bs⟩) w2 (hJJ.out _ _ _ none hJs hgb row_none) ⟨OwnB.rd ho1, k, hlt', rfl⟩ hcl2; dsimp only at hy; unfold Pk.v at hy)
        | (refine hR.mono ?_; intro e W3 hq; obtain ⟨r, rfl, hq⟩ := yes_no hq))
      all_goals
        rcases r with _ | _
        · have hq := hq.resolve_left (fun h => by cases h.1)
          gi_wp2
          refine bodyPost_ret (results_none rfl _ _ _) rfl ?_
          exact ⟨⟨_, rfl⟩, .inr ⟨_, hq.2⟩⟩
        · have hq := hq.resolve_right (fun h => by cases h.1)
          have hb2 := hnx.trans ((box_below hb1).mono (Nat.le_trans hW0 hs))
          gi_wp2
          go_roundw
          case rel => exact ⟨k + 1, _, by omega, by simp, hcm.snoc rfl ⟨rfl, rfl, rfl⟩, hq.2.1, hb2.trans hq.2.2⟩
          case measure => simp [intV]; omega
    · obtain rfl : k = len := by omega
      gi_wp2
      go_end0
      exact ⟨⟨_, rfl⟩, .inl ⟨_, hcm, hJs⟩⟩

set_option maxRecDepth 100000 in
set_option maxHeartbeats 1000000 in
theorem fl1_nil_in (n : Nat) (l Bs : Nat) (a : Option Addr) (cap : Nat) (J : List (Int × Pk) → World → Prop) (W : World) (hBs : W.cell? ⟨Bs, 0, none⟩ = some (.slice a 0 cap)) (h0 : J [] W) :
    CallsIn Fence.wide n Try.prog 63 #[.func (.yield l) #[] #[], .pointer (some ⟨Bs, 0, none⟩)] W fun e W' => (∃ v, e = .returned v) ∧ J [] W' := by
  refine callsIn_of_wp Try.func63 rfl trivial ?_ rfl
  simp only [Try.ntmps63, List.size_toArray, List.length_cons, List.length_nil, Nat.reduceAdd, Nat.reduceSub, Array.replicate_succ, Array.replicate_zero, List.push_toArray, List.append_toArray, List.nil_append, List.cons_append]
  gi_wp2
  gi_loopw [4, 7] (fun _ i wr => i = .int .i64 0 ∧ J [] wr) (fun _ _ _ => 0)
  case atStart => exact ⟨rfl, h0⟩
  case round =>
    obtain ⟨rfl, hJs⟩ := hrel
    gi_wp2
    go_end0
    exact ⟨⟨_, rfl⟩, hJs⟩

/-- No packet in flight. -/
def noFl : Fl := ⟨⟨ByteArray.empty, ByteArray.empty, none, 0, []⟩, 0, 0⟩

theorem fl_stops (n : Nat) (hn : 2 ≤ n) (Bs : Nat) (a : Option Addr) (c : Nat) (H : List Fl) (hreach : H.length ≤ 1000000) (w : World)
    (hB : Blk w Bs 59 #[.slice a H.length c]) (ho : w.ownsRow 0 107 5 (.slice a H.length c) H.length (flCells H)) (hown : ∀ f ∈ H, OwnB w f.p.v f.p.bs) (hlen : ∀ f ∈ H, f.p.bs.length ≤ 65536) :
    SeqFx n 63 #[.pointer (some ⟨Bs, 0, none⟩)] (fun x : Int × Pk => #[.int .i64 x.1, .agg #[.string x.2.fr, .string x.2.to, x.2.v]]) (fun x W => Rd W x.2.v x.2.bs ∧ ∃ f ∈ H, x.1 = f.id) (Below w.heap.size)
      (fun ys => CameF (fun j => H.getD j noFl) H.length ys) H.length w := fun l J Jx W hW hJ _ hY h0 => by
  have hc' : W.cell? ⟨Bs, 0, none⟩ = some (.slice a H.length c) := (hW.cell (p := ⟨Bs, 0, none⟩) hB.lt).trans (hB.cell 0)
  have hKW : Kept (fun q => w.heap.size ≤ q) w W := ⟨hW.os, hW.tape, hW.output, hW.size, fun q hq _ => hW.block q hq⟩
  rcases Nat.eq_zero_or_pos H.length with hz | hz
  · have hE : H = [] := List.eq_nil_of_length_eq_zero hz
    subst hE
    exact (fl1_nil_in n l Bs a c J W hc' h0).mono fun e W' ⟨he, hj⟩ => ⟨he, .inl ⟨_, ⟨rfl, fun j x h => by simp at h⟩, hj⟩⟩
  · obtain ⟨b, rfl, hb, _, _, hx⟩ := own_at ho hz
    have hget : ∀ j, j < H.length → H[j]? = some (H.getD j noFl) ∧ H.getD j noFl ∈ H := fun j hj => by
      have : H[j]? = some (H.getD j noFl) := by simp [hj]
      exact ⟨this, List.mem_of_getElem? this⟩
    refine fl1_in n hn l Bs w.heap.size b H.length c (fun j => H.getD j noFl) hreach hb J Jx W hW.size hJ (fun j hj => ⟨?_, ?_⟩) (fun j hj => hlen _ (hget j hj).2)
      (fun pre x W1 hj1 hfx hl => hY pre x W1 hj1 ⟨hfx.1, by obtain ⟨j, hj, e⟩ := hfx.2; exact ⟨_, (hget j hj).2, e⟩⟩ hl) hc' (fun j hj => ?_) h0
    · exact own_kept (hown _ (hget j hj).2) hKW (fun k hk e => by have := own_lt (hown _ (hget j hj).2) hk; omega)
    · exact fun k hk => own_lt (hown _ (hget j hj).2) hk
    · have hcell : ∀ i u, (Fl.cells (H.getD j noFl))[i]? = some u → i < 5 → W.cell? ⟨b, j * 5 + i, none⟩ = some u := fun i u hu hi =>
        (hW.cell (p := ⟨b, j * 5 + i, none⟩) hb).trans (hx _ _ (by rw [flCells, flat_get Fl.cells 5 (fun _ => rfl) _ _ _ _ (hget j hj).1 hi]; exact hu)).1
      exact ⟨hcell 0 _ rfl (by omega), hcell 1 _ rfl (by omega), hcell 2 _ rfl (by omega), hcell 3 _ rfl (by omega), hcell 4 _ rfl (by omega)⟩

end Go.Proofs.Yticnklmpplicfaa
