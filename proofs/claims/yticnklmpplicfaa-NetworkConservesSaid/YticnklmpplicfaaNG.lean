/- The contracts of slices.Delete and of take. -/
import Derived.Test.YticnklmpplicfaaNF
import Derived.Deep.RegionLaw
import Derived.Deep.Upon
namespace Go.Proofs.Yticnklmpplicfaa
open Go.RowKit

theorem kept_setCells {S : Nat → Prop} {a : World} {b : Nat} : ∀ (vs : List Value) (o : Nat) (w : World), Kept S a w → (S b ∨ a.heap.size ≤ b) → Kept S a (w.setCells b o vs)
  | [], _, _, h, _ => h
  | v :: r, o, _, h, hb => kept_setCells r (o + 1) _ (h.setCell (p := ⟨b, o, none⟩) hb v) hb

theorem heap_setCells {b : Nat} {e : TypeId} : ∀ (vs : List Value) (o : Nat) (w : World) (cur : Array Value), w.heap[b]? = some (.cells cur e (0, 0)) →
    ∃ cur', (w.setCells b o vs).heap[b]? = some (.cells cur' e (0, 0)) ∧ cur'.size = cur.size ∧ ∀ i, i < cur.size → cur'[i]? = if o ≤ i ∧ i < o + vs.length then vs[i - o]? else cur[i]?
  | [], o, _, cur, h => ⟨cur, h, rfl, fun i _ => by rw [if_neg (by simp)]⟩
  | v :: r, o, w, cur, h => by
    have h1 : (w.setCell ⟨b, o, none⟩ v).heap[b]? = some (.cells (cur.setIfInBounds o v) e (0, 0)) := by
      simp [World.setCell, Array.getElem?_modify, h]
    obtain ⟨cur', h2, h3, h4⟩ := heap_setCells r (o + 1) _ _ h1
    refine ⟨cur', h2, by simpa using h3, fun i hi => ?_⟩
    rw [h4 i (by simpa using hi)]
    by_cases h5 : o + 1 ≤ i ∧ i < o + 1 + r.length
    · rw [if_pos h5, if_pos ⟨by omega, by simp; omega⟩]
      rw [show i - o = (i - (o + 1)) + 1 by omega]
      simp
    · rw [if_neg h5]
      by_cases h6 : i = o
      · subst h6
        rw [if_pos ⟨by omega, by simp⟩]
        simp [hi]
      · rw [if_neg (by simp; omega), Array.getElem?_setIfInBounds_ne (by omega)]

theorem flCells_len (F : List Fl) : (flCells F).length = F.length * 5 := by
  induction F with
  | nil => rfl
  | cons f F ih => rw [show flCells (f :: F) = f.cells ++ flCells F from rfl, List.length_append, ih]; simp [Fl.cells]; omega
theorem flCells_append (A B : List Fl) : flCells (A ++ B) = flCells A ++ flCells B := by simp [flCells]
theorem flCells_mem {F : List Fl} {u : Value} (h : u ∈ flCells F) : u.oneCell' = true := by
  simp only [flCells, List.mem_flatMap] at h
  obtain ⟨f, _, h⟩ := h
  exact fl_one f u h

def zfl : List Value := [.string ByteArray.empty, .string ByteArray.empty, .slice none 0 0, .int .i64 0, .int .i64 0]

/-- The row behind the removal of an element. -/
theorem own_erased {w : World} {a : Option Addr} {c i b : Nat} {F : List Fl} (h : w.ownsRow 0 107 5 (.slice a F.length c) F.length (flCells F)) (hi : i < F.length) (hb : a = some ⟨b, 0, none⟩) (vs : List Value) :
    ((w.setCells b (i * 5) (flCells (F.drop (i + 1)))).setCells b ((F.length - 1) * 5) vs).ownsRow 0 107 5 (.slice a (F.length - 1) c) (F.length - 1) (flCells (F.eraseIdx i)) := by
  subst hb
  rcases h.2 with ⟨e1, h0⟩ | ⟨g, cap, cur, e1, _, hg, hc, hm, hs, hx⟩
  · omega
  · have hbg : b = g := by injection e1 with e1; injection e1 with e1; injection e1
    have hcc : c = cap := by injection e1
    subst hbg hcc
    obtain ⟨c1, q1, q2, q3⟩ := heap_setCells (flCells (F.drop (i + 1))) (i * 5) w cur hg
    obtain ⟨c2, r1, r2, r3⟩ := heap_setCells vs ((F.length - 1) * 5) _ c1 q1
    have hE : (F.eraseIdx i).length = F.length - 1 := by rw [List.length_eraseIdx_of_lt hi]
    have hsz : c1.size = c * 5 := q2.trans hs
    refine ⟨by rw [flCells_len, hE], .inr ⟨b, c, c2, rfl, Nat.zero_le _, r1, by omega, hm, by rw [r2, hsz], ?_⟩⟩
    apply List.ext_getElem?
    intro j
    rw [List.getElem?_take]
    by_cases hj : j < (F.length - 1) * 5
    · rw [if_pos hj, Array.getElem?_toList, r3 j (by omega), if_neg (by omega), q3 j (by omega)]
      rw [List.eraseIdx_eq_take_drop_succ, flCells_append]
      have hlt : (flCells (F.take i)).length = i * 5 := by rw [flCells_len, List.length_take, Nat.min_eq_left (by omega)]
      have hld : (flCells (F.drop (i + 1))).length = (F.length - (i + 1)) * 5 := by rw [flCells_len, List.length_drop]
      by_cases hji : j < i * 5
      · rw [if_neg (by omega), List.getElem?_append_left (by omega)]
        have : cur[j]? = (flCells F)[j]? := by
          rw [← hx, List.getElem?_take, if_pos (by omega), Array.getElem?_toList]
        rw [this]
        conv => lhs; rw [← List.take_append_drop i F, flCells_append]
        rw [List.getElem?_append_left (by omega)]
      · rw [if_pos ⟨by omega, by rw [hld]; omega⟩, List.getElem?_append_right (by omega), hlt]
    · rw [if_neg hj]
      rw [List.getElem?_eq_none (by rw [flCells_len, hE]; omega)]

/-- clear at a slice of one flying packet. -/
theorem clear_one (w : World) (b o c : Nat) (ty : TypeId) (hc : ∀ j, j < 5 → (w.cell? ⟨b, o + j, none⟩).isSome = true) (hf : ∀ j, j < 5 → w.frozen? ⟨b, o + j, none⟩ = false) :
    (Builtin.clear_ #[59] ty #[.slice (some ⟨b, o, none⟩) 1 c]).run Try.prog w = .ok (.tuple #[]) (w.setCells b o zfl) := by
  obtain ⟨i0, hi0, hz0, hz1, hz2⟩ := info_parts Try.info107
  have hv : ∀ w, (zeroValue 107).run Try.prog w = .ok (.agg zfl.toArray) w := fun w => by simp [zeroValue, typeInfo, hi0, hz0, zfl]
  have hzc : (Builtin.zeroCells (Value.agg zfl.toArray).cells 1).toList = zfl := by
    rw [show (Value.agg zfl.toArray).cells = zfl.toArray by simp [Value.cells, zfl]]
    simp only [Builtin.zeroCells, Array.toList_map, Array.toList_range]
    rfl
  have hst := run_storeCells_cells (P := Try.prog) b o zfl 0 w (by simpa [zfl] using hc) (by simpa [zfl] using hf) (by intro v hv; simp only [zfl, List.mem_cons, List.not_mem_nil, or_false] at hv; rcases hv with rfl | rfl | rfl | rfl | rfl <;> rfl)
  simp only [Nat.add_zero] at hst
  simp [Builtin.clear_, run_underlying Try.underlying59, hv, hzc, hst]

set_option maxHeartbeats 1600000 in
set_option maxRecDepth 100000 in
theorem delete_any (F : List Fl) (a : Option Addr) (c i : Nat) (w : World) (h : w.ownsRow 0 107 5 (.slice a F.length c) F.length (flCells F)) (hi : i < F.length) (hF : F.length ≤ 1000000) :
    Calls Try.prog 69 #[.slice a F.length c, .int .i64 i, .int .i64 ((i : Int) + 1)] w fun e w' => e = .returned (.slice a (F.length - 1) c) ∧
      w'.ownsRow 0 107 5 (.slice a (F.length - 1) c) (F.length - 1) (flCells (F.eraseIdx i)) ∧ Kept (fun k => (Value.slice a F.length c).ownBlock = some k) w w' := by
  obtain ⟨i0, hi0, hz0, hz1, hz2⟩ := info_parts Try.info107
  obtain ⟨b, rfl, hlt, -, hnc, hcell⟩ := own_at h (by omega)
  have hcap : c ≤ maxLen := by
    rcases h.2 with ⟨_, h0⟩ | ⟨g, cap, cur, e1, _, hg, hc, hm, hs, hx⟩
    · omega
    · injection e1 with _ _ e1; omega
  have hcap' : c ≤ 9223372036854775807 := by unfold maxLen at hcap; omega
  clear hcap
  have hlen : (flCells (F.drop (i + 1))).length = (F.length - (i + 1)) * 5 := by rw [flCells_len, List.length_drop]
  have hread : ∀ t u, (flCells (F.drop (i + 1)))[t]? = some u → w.cell? ⟨b, (i + 1) * 5 + t, none⟩ = some u := by
    intro t u hu
    refine (hcell _ u ?_).1
    conv => lhs; rw [← List.take_append_drop (i + 1) F, flCells_append]
    have hlt : (flCells (F.take (i + 1))).length = (i + 1) * 5 := by rw [flCells_len, List.length_take, Nat.min_eq_left (by omega)]
    rw [List.getElem?_append_right (by omega), hlt, Nat.add_sub_cancel_left]
    exact hu
  obtain ⟨A, hA, hsrc⟩ : ∃ A : Addr, (if c = i + 1 then some (⟨b, 0, none⟩ : Addr) else some ⟨b, (i + 1) * 5, none⟩) = some A ∧ Hid (∀ t u, (flCells (F.drop (i + 1)))[t]? = some u → w.drew.cell? (A.add t) = some u) := by
    by_cases h : c = i + 1
    · refine ⟨⟨b, 0, none⟩, by simp [h], Lib.hid fun t u hu => ?_⟩
      have h0 : (flCells (F.drop (i + 1))).length = 0 := by rw [hlen]; omega
      rw [List.length_eq_zero_iff.1 h0] at hu
      simp at hu
    · refine ⟨⟨b, (i + 1) * 5, none⟩, by simp [h], Lib.hid fun t u hu => ?_⟩
      rw [Addr.add_lit]
      exact hread t u hu
  have s3 : Hid (∀ t, t < (flCells (F.drop (i + 1))).length → (w.drew.cell? ⟨b, 0 + i * 5 + t, none⟩).isSome = true ∧ w.drew.frozen? ⟨b, 0 + i * 5 + t, none⟩ = false) := Lib.hid (by
    intro t ht
    rw [hlen] at ht
    have hb : 0 + i * 5 + t < (flCells F).length := by rw [flCells_len]; omega
    have := hcell _ _ (List.getElem?_eq_getElem hb)
    exact ⟨by show (w.cell? _).isSome = true; rw [this.1]; rfl, this.2⟩)
  have s2 : Hid (∀ u ∈ flCells (F.drop (i + 1)), u.oneCell' = true) := Lib.hid fun u hu => flCells_mem hu
  have HL := Lib.hid hlen
  have HH := Lib.hid h
  clear hlen hread h
  have hic : i ≤ c := by omega
  have hwr : IntKind.i64.wrap ((i : Int) + 1) = (i : Int) + 1 := by rw [IntKind.wrap_i64]; omega
  have hp0 : (0 : Int) ≤ (i : Int) + 1 := by omega
  have hp1 : (i : Int) + 1 ≤ (F.length : Int) := by omega
  have hp2 : ((i : Int) + 1).toNat = i + 1 := by omega
  have hroom : i + (F.length - (i + 1)) ≤ c := by omega
  have hn1 : i + (F.length - (i + 1)) = F.length - 1 := by omega
  have hn2 : ((F.length - 1 : Nat) : Int) ≤ (F.length : Int) := by omega
  have hn3 : F.length - 1 ≤ F.length := by omega
  have hn4 : F.length - 1 ≤ c := by omega
  have hn5 : ¬ c = F.length - 1 := by omega
  have hn6 : F.length - (F.length - 1) = 1 := by omega
  obtain ⟨W1, hW1⟩ : ∃ W1, W1 = w.drew.setCells b (0 + i * 5) (flCells (F.drop (i + 1))) := ⟨_, rfl⟩
  have q5 : ∀ j, j < 5 → (W1.cell? ⟨b, (F.length - 1) * 5 + j, none⟩).isSome = true ∧ W1.frozen? ⟨b, (F.length - 1) * 5 + j, none⟩ = false := by
    intro j hj
    have hb : (F.length - 1) * 5 + j < (flCells F).length := by rw [flCells_len]; omega
    have hx := hcell _ _ (List.getElem?_eq_getElem hb)
    rw [hW1, Nat.zero_add]
    refine ⟨World.isSome_setCells b _ _ _ _ ?_, ?_⟩
    · show (w.cell? _).isSome = true
      rw [hx.1]; rfl
    · rw [World.frozen?_setCells]
      exact hx.2
  obtain ⟨W2, hW2⟩ : ∃ W2, W2 = W1.setCells b ((F.length - 1) * 5) zfl := ⟨_, rfl⟩
  have hcl : ∀ ty, (Builtin.clear_ #[59] ty #[.slice (some ⟨b, (F.length - 1) * 5, none⟩) 1 (c - (F.length - 1))]).run Try.prog W1 = .ok (.tuple #[]) W2 := by
    intro ty
    rw [hW2]
    exact clear_one W1 b _ _ ty (fun j hj => (q5 j hj).1) (fun j hj => (q5 j hj).2)
  have HW := Lib.hid hW1
  have HW2 := Lib.hid hW2
  clear hW1 hW2 q5 hcell
  go_enter Try.func69, Try.ntmps69
  go_wp2_with fail
  go_region_law? (refine step_append_room rfl (.tmp 22) (.tmp 25) 59 rfl 107 i0 5 Try.underlying59 hi0 hz1 b 0 i c (by simp [Act.eval, Act.put]) A (F.length - (i + 1)) (c - (i + 1)) (flCells (F.drop (i + 1))) (by simp [Act.eval, Act.put]) HL.out hsrc.out s2.out hroom s3.out ?_; rw [hn1, ← HW.out])
  go_wp2_with fail
  go_ret
  refine ⟨rfl, ?_, ?_⟩
  · rw [HW2.out, HW.out, Nat.zero_add]
    exact own_erased (w := w.drew) HH.out hi rfl zfl
  · rw [HW2.out, HW.out]
    exact kept_setCells _ _ _ (kept_setCells _ _ _ ((Kept.refl _ _).drew) (.inl rfl)) (.inl rfl)

end Go.Proofs.Yticnklmpplicfaa
