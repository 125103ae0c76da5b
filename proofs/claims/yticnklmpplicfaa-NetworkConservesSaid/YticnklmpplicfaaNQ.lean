/- The map of blocked pairs. -/
import Derived.Test.YticnklmpplicfaaNP
import Derived.DeepKeys3
namespace Go.Proofs.Yticnklmpplicfaa
open Go.RowKit

/-- The key of a pair. -/
def kv (f t : ByteArray) : Value := .agg #[.string f, .string t]

theorem Try.key108 : WideMaps.KeyLaw Try.prog 108 := deep_law (m := 2) (by omega) (by kernel_rfl) (by kernel_rfl) (by kernel_rfl)
theorem Try.map60 : Try.prog.underlying 60 = some (.map 108 4) := by kernel_rfl
theorem Try.arr108 : Try.prog.underlying 108 = some (.array 2 9) := by kernel_rfl
theorem Try.str9 : Try.prog.underlying 9 = some .string := by kernel_rfl
theorem kv_key (f t : ByteArray) (hf : f.size ≤ maxLen) (ht : t.size ≤ maxLen) : ∃ l, keyOf Try.prog 108 (kv f t) = some l := by
  have hk : Try.prog.keyType 108 = true := by kernel_rfl
  have c1 : Try.prog.cellsOf 108 = 2 := by kernel_rfl
  have c2 : Try.prog.cellsOf 9 = 1 := by kernel_rfl
  obtain ⟨d, hd⟩ : ∃ d, Try.prog.types.size + 1 = d + 2 := ⟨Try.prog.types.size - 1, by
    have : decide (0 < Try.prog.types.size) = true := by kernel_rfl
    have := of_decide_eq_true this
    omega⟩
  have hfo : (kv f t).formed Try.prog 108 = true := by
    unfold kv Value.formed
    rw [Try.arr108, c1]
    rfl
  have hc : (kv f t).cells.toList = [.string f, .string t] := by simp [kv, Value.cells]
  have hl : Try.prog.keyLits (d + 2) 108 [.string f, .string t] = some [.string f.data.toList, .string t.data.toList] := by
    show Try.prog.keyLits (d + 1 + 1) 108 _ = _
    simp [c1, c2, List.range, List.range.loop, Program.keyLits, hf, ht]
  unfold keyOf
  rw [Try.arr108, hk, hfo, hd, hc]
  simp only [Bool.and_self, if_true]
  rw [hl]
  exact ⟨_, rfl⟩

/-- The pairs' names are no longer than a string can be. -/
def Short (L : List ((ByteArray × ByteArray) × Bool)) : Prop := ∀ x ∈ L, x.1.1.size ≤ maxLen ∧ x.1.2.size ≤ maxLen ∧ x.2 = true

theorem Try.info4 : (Try.prog.info? 4).map (fun i => i.zero) = some (some (.bool false)) := by kernel_rfl
theorem zero4 (w : World) : (zeroValue 4).run Try.prog w = .ok (.bool false) w := by
  have h := Try.info4
  cases hi : Try.prog.info? 4 with
  | none => rw [hi] at h; cases h
  | some i =>
    rw [hi] at h
    have hz : i.zero = some (.bool false) := by simpa using h
    simp [zeroValue, typeInfo, hi, hz]

theorem kv_inj {f t f' t' : ByteArray} (h : kv f t = kv f' t') : (f, t) = (f', t') := by
  simp only [kv, Value.agg.injEq] at h
  simp at h
  rw [h.1, h.2]

theorem entries_mem {L : List ((ByteArray × ByteArray) × Bool)} {es : Array MapEntry} (h : mapEntries L es) {e : MapEntry} (he : e ∈ es.toList) : ∃ x ∈ L, e.key = kv x.1.1 x.1.2 ∧ e.val = .bool x.2 := by
  have h1 : (e.key, e.val) ∈ es.toList.map (fun e => (e.key, e.val)) := List.mem_map_of_mem he
  rw [h] at h1
  obtain ⟨x, hx, hx2⟩ := List.mem_map.1 h1
  injection hx2 with h2 h3
  exact ⟨x, hx, h2.symm, h3.symm⟩
theorem entries_mem' {L : List ((ByteArray × ByteArray) × Bool)} {es : Array MapEntry} (h : mapEntries L es) {x : (ByteArray × ByteArray) × Bool} (hx : x ∈ L) : ∃ e ∈ es.toList, e.key = kv x.1.1 x.1.2 := by
  have h1 : (kv x.1.1 x.1.2, Value.bool x.2) ∈ L.map (fun x => (kv x.1.1 x.1.2, Value.bool x.2)) := List.mem_map_of_mem hx
  unfold mapEntries at h
  unfold kv at h1
  rw [← h] at h1
  obtain ⟨e, he, he2⟩ := List.mem_map.1 h1
  injection he2 with h2 h3
  exact ⟨e, he, h2⟩

theorem find_pair (w : World) {L : List ((ByteArray × ByteArray) × Bool)} {es : Array MapEntry} (h : mapEntries L es) (hL : Short L) (f t : ByteArray) (hf : f.size ≤ maxLen) (ht : t.size ≤ maxLen) :
    ((Instr.findKey 108 (kv f t) es.toList).run Try.prog w = .ok none w ∧ ∀ x ∈ L, x.1 ≠ (f, t)) ∨
    ∃ j e, (Instr.findKey 108 (kv f t) es.toList).run Try.prog w = .ok (some (j, e.val)) w ∧ es[j]? = some e ∧ e.key = kv f t ∧ ∃ x ∈ L, x.1 = (f, t) ∧ e.val = .bool x.2 := by
  obtain ⟨l, hl⟩ := kv_key f t hf ht
  have hall : ∀ e ∈ es.toList, ∃ l, keyOf Try.prog 108 e.key = some l := by
    intro e he
    obtain ⟨x, hx, h1, _⟩ := entries_mem h he
    rw [h1]
    exact kv_key _ _ (hL x hx).1 (hL x hx).2.1
  rcases Try.key108.find w hl es.toList hall with ⟨h1, h2⟩ | ⟨j, e, h1, h2, h3⟩
  · refine .inl ⟨h1, fun x hx e => ?_⟩
    obtain ⟨e', he', hk'⟩ := entries_mem' h hx
    exact h2 e' he' (by rw [hk', e])
  · have he : e ∈ es.toList := List.mem_of_getElem? h2
    obtain ⟨x, hx, h4, h5⟩ := entries_mem h he
    exact .inr ⟨j, e, h1, by simpa using h2, h3, x, hx, kv_inj (h4.symm.trans h3), h5⟩

theorem lookup_any (w : World) {m : Option Nat} {L : List ((ByteArray × ByteArray) × Bool)} (h : MapOk w m L) (hL : Short L) (f t : ByteArray) (hf : f.size ≤ maxLen) (ht : t.size ≤ maxLen) :
    ∃ b, (∀ n, (Instr.lookup 60 (.map m) (kv f t) false).run Try.prog (w.drewN n) = .ok (.bool b) (w.drewN n)) ∧ ((b = false ∧ ∀ x ∈ L, x.1 ≠ (f, t)) ∨ ∃ x ∈ L, x.1 = (f, t) ∧ x.2 = b) := by
  obtain ⟨l, hl⟩ := kv_key f t hf ht
  cases m with
  | none =>
    refine ⟨false, fun n => ?_, .inl ⟨rfl, by rw [h.nil_ rfl]; simp⟩⟩
    have hc := Try.key108.check (w.drewN n) true hl
    have hfn : (Instr.findKey 108 (kv f t) []).run Try.prog (w.drewN n) = .ok none (w.drewN n) := by
      rcases find_pair (w.drewN n) (L := []) (es := #[]) rfl (by intro x hx; cases hx) f t hf ht with ⟨h1, _⟩ | ⟨j, e, _, h2, _⟩
      · exact h1
      · simp at h2
    simp [Instr.lookup, run_underlying Try.map60, hc, hfn]
  | some k =>
    obtain ⟨es, clock, hh, he⟩ := h.some_ k rfl
    have hg : ∀ n, (getObj k).run Try.prog (w.drewN n) = .ok (.map es clock) (w.drewN n) := fun n => by
      simp [getObj, Sem.run, hh]
    rcases find_pair w he hL f t hf ht with ⟨_, h2⟩ | ⟨j, e, _, h2, h3, x, hx, h4, h5⟩
    · refine ⟨false, fun n => ?_, .inl ⟨rfl, h2⟩⟩
      have hc := Try.key108.check (w.drewN n) es.isEmpty hl
      rcases find_pair (w.drewN n) he hL f t hf ht with ⟨h1, _⟩ | ⟨j, e, _, _, _, x, hx, h4, _⟩
      · simp [Instr.lookup, run_underlying Try.map60, hg, hc, h1]
      · exact absurd h4 (h2 x hx)
    · refine ⟨true, fun n => ?_, .inr ⟨x, hx, h4, (hL x hx).2.2⟩⟩
      have hc := Try.key108.check (w.drewN n) es.isEmpty hl
      rcases find_pair (w.drewN n) he hL f t hf ht with ⟨_, h1⟩ | ⟨j, e, h1, _, _, x', hx', _, h6⟩
      · exact absurd h4 (h1 x hx)
      · rw [(hL x' hx').2.2] at h6
        simp [Instr.lookup, run_underlying Try.map60, hg, hc, h1, h6]

/-- A pair is laid into the map. -/
theorem update_any (w : World) {k clock : Nat} {L : List ((ByteArray × ByteArray) × Bool)} {es : Array MapEntry} (hh : w.heap[k]? = some (.map es clock)) (he : mapEntries L es) (hL : Short L) (f t : ByteArray) (hf : f.size ≤ maxLen) (ht : t.size ≤ maxLen) :
    ∃ es' clock' L', (Instr.mapUpdate 60 (.map (some k)) (kv f t) (.bool true)).run Try.prog w = .ok () { w with heap := w.heap.setIfInBounds k (.map es' clock') } ∧
      mapEntries L' es' ∧ Short L' ∧ (L = [] → L' = [((f, t), true)]) := by
  obtain ⟨l, hl⟩ := kv_key f t hf ht
  have hg : (getObj k).run Try.prog w = .ok (.map es clock) w := by simp [getObj, Sem.run, hh]
  have hs : ∀ o, (setObj k o).run Try.prog w = .ok () { w with heap := w.heap.setIfInBounds k o } := fun o => by simp [setObj, Sem.run, hh]
  have hc := Try.key108.check w false hl
  rcases find_pair w he hL f t hf ht with ⟨h1, h2⟩ | ⟨j, e, h1, h2, h3, x, hx, h4, h5⟩
  · refine ⟨es.push { key := kv f t, val := .bool true, born := clock }, clock + 1, L ++ [((f, t), true)], ?_, ?_, ?_, by rintro rfl; rfl⟩
    · simp [Instr.mapUpdate, run_underlying Try.map60, hg, hc, h1, hs]
    · unfold mapEntries at he ⊢
      simp [he, kv]
    · intro y hy
      rcases List.mem_append.1 hy with hy | hy
      · exact hL y hy
      · have : y = ((f, t), true) := by simpa using hy
        subst this
        exact ⟨hf, ht, rfl⟩
  · have hst := Try.key108.stays w hl
    refine ⟨es.modify j (fun e => { e with key := kv f t, val := .bool true }), clock, L, ?_, ?_, hL, by rintro rfl; cases hx⟩
    · simp [Instr.mapUpdate, run_underlying Try.map60, hg, hc, h1, hs, h2, h3, hst]
    · unfold mapEntries at he ⊢
      rw [← he]
      have hv : e.val = .bool true := by rw [h5, (hL x hx).2.2]
      apply List.ext_getElem?
      intro i
      simp only [Array.toList_modify, List.getElem?_map, List.getElem?_modify]
      by_cases hij : j = i
      · subst hij
        rw [Array.getElem?_toList, h2]
        simp [h3, hv]
      · simp [hij]

end Go.Proofs.Yticnklmpplicfaa
