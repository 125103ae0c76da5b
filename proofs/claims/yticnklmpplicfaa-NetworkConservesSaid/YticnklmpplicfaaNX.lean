/- The contract of the history's iterator. -/
import Derived.Test.YticnklmpplicfaaNZ
namespace Go.Proofs.Yticnklmpplicfaa
open Go.RowKit Go.Shelf

attribute [local go_sem] Oper.semAt_some

/-- A packet is the copy of another: the bytes lie elsewhere. -/
def Pk.like (p q : Pk) : Prop := p.fr = q.fr ∧ p.to = q.to ∧ p.bs = q.bs
/-- What has come: copies of the packets. -/
def Came (zf : Nat → Pk) (k : Nat) (l : List (Nat × Pk)) : Prop := l.length = k ∧ ∀ (j : Nat) (x : Nat × Pk), l[j]? = some x → x.1 = j ∧ x.2.like (zf j)

set_option maxRecDepth 100000 in
set_option maxHeartbeats 2000000 in
theorem hi1_in (n : Nat) (hn : 2 ≤ n) (l Bs n₀ b len cap : Nat) (zf : Nat → Pk) (hreach : len ≤ 1000000) (hb : b < n₀) (J Jx : List (Nat × Pk) → World → Prop)
    (W : World) (hW0 : n₀ ≤ W.heap.size) (hJ : AbidesFrom W.heap.size J)
    (hown : ∀ j, j < len → OwnB W (zf j).v (zf j).bs ∧ ∀ k, (zf j).v.ownBlock = some k → k < n₀) (hlen : ∀ j, j < len → (zf j).bs.length ≤ 65536)
    (hY : ∀ pre x W, J pre W → Rd W x.2.v x.2.bs → pre.length < len → YieldAt Fence.wide (n - 1) Try.prog l #[.int .i64 (x.1 : Int), .agg #[.string x.2.fr, .string x.2.to, x.2.v]] W fun e W' =>
      (e = .returned (.bool true) ∧ J (pre ++ [x]) W' ∧ Below n₀ W W') ∨ (e = .returned (.bool false) ∧ Jx (pre ++ [x]) W'))
    (hBs : W.cell? ⟨Bs, 0, none⟩ = some (.slice (some ⟨b, 0, none⟩) len cap)) (hc : ∀ j, j < len → W.cell? ⟨b, j * 3, none⟩ = some (.string (zf j).fr) ∧ W.cell? ⟨b, j * 3 + 1, none⟩ = some (.string (zf j).to) ∧ W.cell? ⟨b, j * 3 + 2, none⟩ = some (zf j).v) (h0 : J [] W) :
    CallsIn Fence.wide n Try.prog 72 #[.func (.yield l) #[] #[], .pointer (some ⟨Bs, 0, none⟩)] W fun e W' => (∃ v, e = .returned v) ∧
      ((∃ ys, Came zf len ys ∧ J ys W') ∨ (∃ pre, Jx pre W')) := by
  refine callsIn_of_wp Try.func72 rfl trivial ?_ rfl
  simp only [Try.ntmps72, List.size_toArray, List.length_cons, List.length_nil, Nat.reduceAdd, Nat.reduceSub, Array.replicate_succ, Array.replicate_zero, List.push_toArray, List.append_toArray, List.nil_append, List.cons_append]
  gi_wp2
  gi_loopw [3, 4, 7] (fun _ _ i wr => ∃ (k : Nat) (ys : List (Nat × Pk)), k ≤ len ∧ i = .int .i64 k ∧ Came zf k ys ∧ J ys wr ∧ Below n₀ W wr)
    (fun _ _ i _ => len - (intV i).toNat)
  case atStart => exact ⟨0, [], Nat.zero_le _, rfl, ⟨rfl, fun j x h => by simp at h⟩, h0, Below.refl _ _⟩
  case round =>
    obtain ⟨k, ys, hk, rfl, hcm, hJs, hnx⟩ := hrel
    by_cases hlt : k < len
    · have hs := hnx.size
      have hc0 := (hnx.cell (p := ⟨b, k * 3, none⟩) hb).trans (hc k hlt).1
      have hc1 := (hnx.cell (p := ⟨b, k * 3 + 1, none⟩) hb).trans (hc k hlt).2.1
      have hc2 := (hnx.cell (p := ⟨b, k * 3 + 2, none⟩) hb).trans (hc k hlt).2.2
      have ho := own_kept (hown k hlt).1 (S := fun q => n₀ ≤ q) ⟨hnx.os, hnx.tape, hnx.output, hnx.size, fun q _ hq => hnx.block q (by omega)⟩ (fun q hq e => by have := (hown k hlt).2 q hq; omega)
      have hcl := clone_any (zf k).fr (zf k).to _ (zf k).bs (wr.alloc (.cells #[.string (zf k).fr, .string (zf k).to, (zf k).v] 67)) ((OwnB.rd ho).alloc _) (hlen k hlt)
      unfold Pk.v at hc2 hcl
      gi_wp2
      refine ⟨trivial, fun _ => by omega, (callsIn_wide.2 hcl).mono ?_⟩
      rintro e w2 ⟨a1, c1, rfl, ho1, hb1, hf1⟩
      have hb2 : Below wr.heap.size wr w2 := nbelow_box hb1
      have hg2 : wr.grownBy w2 none := ⟨hb2.os, hb2.tape, hb2.output, hb2.size, fun q hq _ => hb2.block q hq⟩
      obtain ⟨fn, tmps, assign, body, hy, hR⟩ := hY ys (k, ⟨(zf k).fr, (zf k).to, a1, c1, (zf k).bs⟩) w2 (hJ _ _ _ none hJs hg2 (fun r e => by cases e)) (OwnB.rd ho1) (by rw [hcm.1]; exact hlt)
      dsimp only at hy
      unfold Pk.v at hy
      have hcm' : Came zf (k + 1) (ys ++ [(k, ⟨(zf k).fr, (zf k).to, a1, c1, (zf k).bs⟩)]) := by
        refine ⟨by rw [List.length_append, hcm.1]; rfl, fun j x hx => ?_⟩
        rcases Nat.lt_or_ge j k with h | h
        · rw [List.getElem?_append_left (by rw [hcm.1]; exact h)] at hx
          exact hcm.2 j x hx
        · rw [List.getElem?_append_right (by rw [hcm.1]; exact h), hcm.1] at hx
          have hjk : j = k := by
            have := (List.getElem?_eq_some_iff.1 hx).1
            simp at this; omega
          subst hjk
          simp at hx
          subst hx
          exact ⟨rfl, rfl, rfl, rfl⟩
      have hn2 : Below n₀ W w2 := hnx.trans (hb2.mono (by omega))
      clear hb1 hf1 ho1 hcl ho hb2 hg2 hc0 hc1 hc2 hcm
      gi_wp2
      refine ⟨fun _ => by omega, hR.mono ?_⟩
      rintro e W3 (⟨rfl, hJ3, hk3⟩ | ⟨rfl, hJx3⟩)
      · gi_wp2
        go_roundw
        case rel => exact ⟨k + 1, _, by omega, by simp, hcm', hJ3, hn2.trans hk3⟩
        case measure => simp [intV]; omega
      · gi_wp2
        refine bodyPost_ret (results_none rfl _ _ _) rfl ?_
        exact ⟨⟨_, rfl⟩, .inr ⟨_, hJx3⟩⟩
    · obtain rfl : k = len := by omega
      gi_wp2
      go_end0
      exact ⟨⟨_, rfl⟩, .inl ⟨_, hcm, hJs⟩⟩

set_option maxRecDepth 100000 in
set_option maxHeartbeats 1000000 in
theorem hi1_nil_in (n : Nat) (l Bs : Nat) (a : Option Addr) (cap : Nat) (J : List (Nat × Pk) → World → Prop) (W : World) (hBs : W.cell? ⟨Bs, 0, none⟩ = some (.slice a 0 cap)) (h0 : J [] W) :
    CallsIn Fence.wide n Try.prog 72 #[.func (.yield l) #[] #[], .pointer (some ⟨Bs, 0, none⟩)] W fun e W' => (∃ v, e = .returned v) ∧ J [] W' := by
  refine callsIn_of_wp Try.func72 rfl trivial ?_ rfl
  simp only [Try.ntmps72, List.size_toArray, List.length_cons, List.length_nil, Nat.reduceAdd, Nat.reduceSub, Array.replicate_succ, Array.replicate_zero, List.push_toArray, List.append_toArray, List.nil_append, List.cons_append]
  gi_wp2
  gi_loopw [3, 4, 7] (fun _ _ i wr => i = .int .i64 0 ∧ J [] wr) (fun _ _ _ _ => 0)
  case atStart => exact ⟨rfl, h0⟩
  case round =>
    obtain ⟨rfl, hJs⟩ := hrel
    gi_wp2
    go_end0
    exact ⟨⟨_, rfl⟩, hJs⟩

theorem hi_stops (n : Nat) (hn : 2 ≤ n) (Bs : Nat) (a : Option Addr) (c : Nat) (H : List Pk) (hreach : H.length ≤ 1000000) (w : World)
    (hB : Blk w Bs 58 #[.slice a H.length c]) (ho : w.ownsRow 0 67 3 (.slice a H.length c) H.length (pkCells H)) (hown : ∀ p ∈ H, OwnB w p.v p.bs) (hlen : ∀ p ∈ H, p.bs.length ≤ 65536) :
    SeqFx n 72 #[.pointer (some ⟨Bs, 0, none⟩)] (fun x : Nat × Pk => #[.int .i64 (x.1 : Int), .agg #[.string x.2.fr, .string x.2.to, x.2.v]]) (fun x W => Rd W x.2.v x.2.bs) (Below w.heap.size)
      (fun ys => Came (fun j => H.getD j ⟨ByteArray.empty, ByteArray.empty, none, 0, []⟩) H.length ys) H.length w := fun l J Jx W hW hJ _ hY h0 => by
  have hc' : W.cell? ⟨Bs, 0, none⟩ = some (.slice a H.length c) := (hW.cell (p := ⟨Bs, 0, none⟩) hB.lt).trans (hB.cell 0)
  have hKW : Kept (fun q => w.heap.size ≤ q) w W := ⟨hW.os, hW.tape, hW.output, hW.size, fun q hq _ => hW.block q hq⟩
  rcases Nat.eq_zero_or_pos H.length with hz | hz
  · have hE : H = [] := List.eq_nil_of_length_eq_zero hz
    subst hE
    exact (hi1_nil_in n l Bs a c J W hc' h0).mono fun e W' ⟨he, hj⟩ => ⟨he, .inl ⟨_, ⟨rfl, fun j x h => by simp at h⟩, hj⟩⟩
  · obtain ⟨b, rfl, hb, _, _, hx⟩ := own_at ho hz
    have hget : ∀ j, j < H.length → H[j]? = some (H.getD j ⟨ByteArray.empty, ByteArray.empty, none, 0, []⟩) ∧ H.getD j ⟨ByteArray.empty, ByteArray.empty, none, 0, []⟩ ∈ H := fun j hj => by
      have : H[j]? = some (H.getD j ⟨ByteArray.empty, ByteArray.empty, none, 0, []⟩) := by simp [hj]
      exact ⟨this, List.mem_of_getElem? this⟩
    refine hi1_in n hn l Bs w.heap.size b H.length c (fun j => H.getD j ⟨ByteArray.empty, ByteArray.empty, none, 0, []⟩) hreach hb J Jx W hW.size hJ (fun j hj => ⟨?_, ?_⟩) (fun j hj => hlen _ (hget j hj).2) hY hc' (fun j hj => ?_) h0
    · exact own_kept (hown _ (hget j hj).2) hKW (fun k hk e => by have := own_lt (hown _ (hget j hj).2) hk; omega)
    · exact fun k hk => own_lt (hown _ (hget j hj).2) hk
    · have hcell : ∀ i u, (Pk.cells (H.getD j ⟨ByteArray.empty, ByteArray.empty, none, 0, []⟩))[i]? = some u → i < 3 → W.cell? ⟨b, j * 3 + i, none⟩ = some u := fun i u hu hi =>
        (hW.cell (p := ⟨b, j * 3 + i, none⟩) hb).trans (hx _ _ (by rw [pkCells, flat_get Pk.cells 3 (fun _ => rfl) _ _ _ _ (hget j hj).1 hi]; exact hu)).1
      exact ⟨hcell 0 _ rfl (by omega), hcell 1 _ rfl (by omega), hcell 2 _ rfl (by omega)⟩

end Go.Proofs.Yticnklmpplicfaa
