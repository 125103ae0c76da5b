/- DriftPlays returns true for every three integers and every slice of calls, without a condition, and changes nothing of what was in memory. -/
import Derived.Test.YticnklmpplicfaaPostB
import Derived.Test.YticnklmpplicfaaL5
import Derived.Test.YticnklmpplicfaaOpen
import Derived.ProofKit
import Derived.OpenShut
namespace Go.Proofs.Yticnklmpplicfaa.driftPlays
open Go.ChangeShapes Go.WideShapes Go.ChangeAt Go.RowKit

theorem cells41 : Try.prog.cellsOf 41 = 3 := by kernel_rfl
theorem readable : ∀ t ∈ Try.f4.params.toList, Try.prog.readableRec t = true ∧ t < Try.prog.types.size := by
  rw [Try.params4]
  have h36 : Try.prog.readableRec 36 = true := by kernel_rfl
  have h3 : Try.prog.readableRec 3 = true := by kernel_rfl
  have s36 : 36 < Try.prog.types.size := of_decide_eq_true (by kernel_rfl)
  have s3 : 3 < Try.prog.types.size := of_decide_eq_true (by kernel_rfl)
  intro t ht
  simp only [List.mem_cons, List.not_mem_nil, or_false] at ht
  rcases ht with rfl | rfl | rfl | rfl
  · exact ⟨h3, s3⟩
  · exact ⟨h3, s3⟩
  · exact ⟨h3, s3⟩
  · exact ⟨h36, s36⟩
theorem restypes : Try.f4.resultTypes = #[4] := by kernel_rfl

theorem spot_none {w : World} {a : Addr} {v : Value} (h : w.cell? a = some v) : a = ⟨a.block, a.off, none⟩ := by
  obtain ⟨b, o, s⟩ := a
  cases s with
  | none => rfl
  | some s =>
    exfalso
    simp only [World.cell?] at h
    split at h
    · simp at h
    · cases h

set_option maxRecDepth 100000 in
/-- The slice of calls that came in, opened. -/
theorem open_acts {H : Type} {enc : TypeId × Value → H} {W : World} {v : Value} {d : DataW H} {p : List MemPlace} {base : Nat} (hv : Value.okWide Try.prog W .any base 36 v) (h : DataW.Trod enc Try.prog W 0 (fun _ => true) true 36 v d p) :
    ∃ (a : Option Addr) (n cap : Nat), v = .slice a n cap ∧ Acts W a n := by
  obtain ⟨a0, len, cap, rfl⟩ := okWide_slice Try.underlying36 hv
  obtain ⟨fuel, hf⟩ := h
  rcases open_slice_fields Try.underlying36 Try.underlying41 (by kernel_rfl) cells41 hf with ⟨hcs, hx⟩ | ⟨a, len', cap', m, D, Pl, hcs, _, hl, hm, hmm, hx, hi⟩
  · simp [Value.cells] at hcs
    obtain ⟨rfl, rfl, rfl⟩ := hcs
    exact ⟨none, 0, 0, rfl, ⟨by omega, fun h => by omega⟩⟩
  · simp [Value.cells] at hcs
    obtain ⟨rfl, rfl, rfl⟩ := hcs
    have hmc : m = cap := by simpa using hmm
    refine ⟨some a, len, cap, rfl, ⟨by unfold maxLen at hm; omega, fun h0 => ?_⟩⟩
    have hall : ∀ k, k < len → ∃ x : Int × Int × Int, W.cell? (a.add (k * 3 + 0)) = some (.int .i64 x.1) ∧ W.cell? (a.add (k * 3 + 1)) = some (.int .i64 x.2.1) ∧ W.cell? (a.add (k * 3 + 2)) = some (.int .i64 x.2.2) := by
      intro k hk
      obtain ⟨ys, n, _, _, _, hf⟩ := hi k (by omega)
      obtain ⟨v0, y0, c0, _, t0⟩ := hf 0 _ rfl
      obtain ⟨v1, y1, c1, _, t1⟩ := hf 1 _ rfl
      obtain ⟨v2, y2, c2, _, t2⟩ := hf 2 _ rfl
      obtain ⟨x0, e0, -, -⟩ := DataW.trod_int Try.underlying3 t0
      obtain ⟨x1, e1, -, -⟩ := DataW.trod_int Try.underlying3 t1
      obtain ⟨x2, e2, -, -⟩ := DataW.trod_int Try.underlying3 t2
      simp at e0 e1 e2
      subst e0 e1 e2
      exact ⟨(x0, x1, x2), c0, c1, c2⟩
    obtain ⟨x, hx0, _⟩ := hall 0 h0
    have ha : a = ⟨a.block, a.off, none⟩ := by
      have := spot_none hx0
      unfold Addr.add at this
      simpa using this
    have hadd : ∀ m, a.add m = ⟨a.block, a.off + m, none⟩ := by
      intro m
      unfold Addr.add
      split
      · rename_i h; subst h; simpa using ha
      · rfl
    have hall2 : ∀ k, ∃ x : Int × Int × Int, k < len → W.cell? ⟨a.block, a.off + k * 3, none⟩ = some (.int .i64 x.1) ∧ W.cell? ⟨a.block, a.off + k * 3 + 1, none⟩ = some (.int .i64 x.2.1) ∧ W.cell? ⟨a.block, a.off + k * 3 + 2, none⟩ = some (.int .i64 x.2.2) := by
      intro k
      by_cases hk : k < len
      · obtain ⟨x, x0, x1, x2⟩ := hall k hk
        rw [hadd] at x0 x1 x2
        exact ⟨x, fun _ => ⟨by simpa using x0, by simpa [Nat.add_assoc] using x1, by simpa [Nat.add_assoc] using x2⟩⟩
      · exact ⟨(0, 0, 0), fun h => absurd h hk⟩
    obtain ⟨f, hf⟩ := Classical.skolem.1 hall2
    exact ⟨a.block, a.off, f, by rw [← ha], fun k hk => hf k hk⟩

set_option maxRecDepth 100000 in
theorem lifted (os : Os) (started : os.Started) (H : Type) (enc : TypeId × Value → H) :
    ReturnsInHanded {} Try.checked os 4 .any (Rows.driftPlaysSpec.pre6 enc Try.prog Try.f4 Rows.driftPlaysRow.domain false) (Rows.driftPlaysSpec.post enc Try.prog Try.f4 false true false false) := by
  refine returnsInHanded_of_change (C := Try.checked) own' started (by kernel_rfl) Try.func4
    (ChangeSpec.witness6 (enc := enc) (C := Try.checked) false ⟨#[], #[.int .i64 0, .int .i64 0, .int .i64 0, .slice none 0 0], []⟩ 8 (by kernel_rfl) (by kernel_rfl) (by kernel_rfl) (by kernel_rfl)) ?_
  intro W base args ds gs before hval0 hW hcnd _
  have hval : ∀ (j : Nat) t v, Try.f4.params[j]? = some t → args[j]? = some v → Value.okWide Try.prog W .any base t v := hval0
  have hW' : DataW.Whole enc Try.prog Try.f4.params.toList Rows.driftPlaysSpec.vars false W args.toList ds gs before := hW
  obtain ⟨p, q, hA0, hV, rfl, hfz, hnd⟩ := hW
  have hA : DataW.TrodAll enc Try.prog W 0 (fun _ => true) true Try.f4.params.toList args.toList ds p := hA0
  rw [Try.params4] at hA hval
  obtain ⟨v0, v1, v2, v3, d0, d1, d2, d3, p0, p1, p2, p3, rfl, rfl, rfl, h0, h1, h2, h3⟩ := trodAll_four hA
  obtain ⟨A, rfl, -, -, -⟩ := open_int Try.underlying3 (hval 0 3 v0 rfl rfl) h0
  obtain ⟨S, rfl, -, -, -⟩ := open_int Try.underlying3 (hval 1 3 v1 rfl rfl) h1
  obtain ⟨R, rfl, -, -, -⟩ := open_int Try.underlying3 (hval 2 3 v2 rfl rfl) h2
  obtain ⟨a, n, cap, rfl, ha⟩ := open_acts (hval 3 36 v3 rfl rfl) h3
  refine (law_plays A S R a n cap W ha).mono fun e W' ⟨he, hb⟩ => ?_
  subst he
  exact ⟨_, rfl, post_law Try.laidOut' readable restypes Try.underlying4 rfl ⟨rfl, rfl, rfl⟩ hW' hb⟩

theorem over : Rows.driftPlaysRow.holds Try.pinned (OpenSpec.ofChange Rows.driftPlaysSpec) :=
  OpenClaim.holds_of_wide 4 Try.f4 rfl rfl rfl rfl rfl rfl rfl ⟨rfl, rfl, rfl, rfl, rfl⟩ rfl rfl rfl rfl rfl (by kernel_rfl) Try.func4 (by kernel_rfl)
    (of_decide_eq_true (by kernel_rfl)) (by unfold Func.isWrapper; first | (rw [if_pos (by decide +kernel)]; kernel_rfl) | (rw [if_neg (by decide +kernel)]; exact ⟨rfl, rfl⟩))
    (fun os started H enc _ => lifted os started H enc)

theorem proved : Rows.DriftPlaysSaid := over
#print axioms proved
end Go.Proofs.Yticnklmpplicfaa.driftPlays
