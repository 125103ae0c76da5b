/- NetworkConserves returns true for every slice of calls, without a condition, and changes nothing of what was in memory. -/
import Derived.Test.YticnklmpplicfaaPostB
import Derived.Test.YticnklmpplicfaaO7
import Derived.Deep.Slices
import Derived.ChangeSame
import Derived.ProofKit
import Derived.OpenShut
namespace Go.Proofs.Yticnklmpplicfaa.networkConserves
open Go.ChangeShapes Go.WideShapes Go.ChangeAt Go.RowKit Go.Deep

theorem cells73 : Try.prog.cellsOf 73 = 7 := by kernel_rfl
theorem cells67 : Try.prog.cellsOf 67 = 3 := by kernel_rfl
theorem cells65 : Try.prog.cellsOf 65 = 1 := by kernel_rfl
theorem cells9 : Try.prog.cellsOf 9 = 1 := by kernel_rfl
theorem cells5 : Try.prog.cellsOf 5 = 1 := by kernel_rfl
theorem cells3 : Try.prog.cellsOf 3 = 1 := by kernel_rfl
theorem readable : ∀ t ∈ Try.f9.params.toList, Try.prog.readableRec t = true ∧ t < Try.prog.types.size := by
  rw [Try.params9]
  have h70 : Try.prog.readableRec 70 = true := by kernel_rfl
  have s70 : 70 < Try.prog.types.size := of_decide_eq_true (by kernel_rfl)
  intro t ht
  simp only [List.mem_cons, List.not_mem_nil, or_false] at ht
  subst ht
  exact ⟨h70, s70⟩
theorem restypes : Try.f9.resultTypes = #[4] := by kernel_rfl

theorem spot_none {w : World} {a : Addr} {v : Value} (h : w.cell? a = some v) : a = ⟨a.block, a.off, none⟩ := by
  obtain ⟨b, o, s⟩ := a
  cases s with
  | none => rfl
  | some s =>
    exfalso
    simp only [World.cell?] at h
    split at h
    · simp at h
    · cases h
theorem add_at {a : Addr} (ha : a = ⟨a.block, a.off, none⟩) (m : Nat) : a.add m = ⟨a.block, a.off + m, none⟩ := by
  unfold Addr.add
  split
  · rename_i h; subst h; simpa using ha
  · rfl

theorem seven {α : Type} : ∀ {l : List α}, l.length = 7 → ∃ c0 c1 c2 c3 c4 c5 c6, l = [c0, c1, c2, c3, c4, c5, c6]
  | [c0, c1, c2, c3, c4, c5, c6], _ => ⟨c0, c1, c2, c3, c4, c5, c6, rfl⟩

section
variable {H : Type} {enc : TypeId × Value → H} {W : World} {spare : Nat → Bool} {held : Bool}

/-- Bytes that came in. -/
theorem open_bytes5 {n : Nat} {v : Value} {y : DataW H × List MemPlace} (h : DataW.trod enc Try.prog W 0 spare held n 65 [v] = some y) :
    ∃ (a : Option Addr) (len cap : Nat) (bs : List Int), v = .slice a len cap ∧ len ≤ maxLen ∧ bs.length = len ∧ Rd W v bs := by
  rcases open_slice Try.underlying65 h with ⟨hcs, -⟩ | ⟨a, len, cap, m, n', D, Pl, hcs, _, hl, hm, hmm, _, hi⟩
  · simp at hcs
    subst hcs
    exact ⟨none, 0, 0, [], rfl, Nat.zero_le _, rfl, ⟨⟨none, 0, rfl, fun _ => ⟨rfl, rfl⟩⟩, fun h => by simp at h⟩⟩
  · simp at hcs
    subst hcs
    have hlm : len ≤ m := by rw [hmm]; split <;> omega
    have hall : ∀ i, ∃ x : Int, i < len → W.cell? (a.add i) = some (.int .u8 x) := by
      intro i
      by_cases hlt : i < len
      · obtain ⟨cs', hc, ht⟩ := hi i (by omega)
        obtain ⟨_, hcl, hat⟩ := World.cells?_some hc
        obtain ⟨x, e, -, -⟩ := DataW.trod_int Try.underlying5 ht
        subst e
        have := hat 0 (by rw [cells5]; omega)
        rw [cells5, Nat.mul_one] at this
        exact ⟨x, fun _ => by simpa [Addr.add] using this⟩
      · exact ⟨0, fun h => absurd h hlt⟩
    obtain ⟨f, hf⟩ := Classical.skolem.1 hall
    refine ⟨some a, len, cap, (List.range len).map f, rfl, by omega, by simp, ⟨⟨some a, cap, by simp, fun e => by cases e⟩, fun h0 => ?_⟩⟩
    have h0' : 0 < len := by simpa using h0
    have ha : a = ⟨a.block, a.off, none⟩ := spot_none (by simpa [Addr.add] using hf 0 h0')
    refine ⟨a.block, a.off, cap, by rw [← ha]; simp, fun i hlt => ?_⟩
    have hlt' : i < len := by simpa using hlt
    have := hf i hlt'
    rw [add_at ha] at this
    rw [this]
    simp [hlt']

/-- A call that came in. -/
theorem open_act {n : Nat} {cs : List Value} {y : DataW H × List MemPlace} (h : DataW.trod enc Try.prog W 0 spare held n 73 cs = some y) :
    ∃ x : ActV, cs = x.cells ∧ x.fr.size ≤ maxLen ∧ x.to.size ≤ maxLen ∧ x.len ≤ maxLen ∧ ∃ bs, bs.length = x.len ∧ Rd W (.slice x.a x.len x.cap) bs := by
  obtain ⟨xs, n1, rfl, _, hlen, hxl, hf⟩ := DataW.trod_struct Try.underlying73 h
  rw [cells73] at hlen
  obtain ⟨c0, c1, c2, c3, c4, c5, c6, rfl⟩ := seven hlen
  have hg : ∀ i, i < 5 → ∃ y, xs[i]? = some y := fun i hi => ⟨_, List.getElem?_eq_getElem (by rw [hxl]; exact hi)⟩
  obtain ⟨y0, g0⟩ := hg 0 (by omega)
  obtain ⟨y1, g1⟩ := hg 1 (by omega)
  obtain ⟨y2, g2⟩ := hg 2 (by omega)
  obtain ⟨y3, g3⟩ := hg 3 (by omega)
  obtain ⟨y4, g4⟩ := hg 4 (by omega)
  have t0 : DataW.trod enc Try.prog W 0 spare held n1 3 (([c0, c1, c2, c3, c4, c5, c6].drop 0).take (Try.prog.cellsOf 3)) = some y0 := (hf 0 _ rfl).trans g0
  rw [cells3] at t0
  have t1 : DataW.trod enc Try.prog W 0 spare held n1 3 (([c0, c1, c2, c3, c4, c5, c6].drop 1).take (Try.prog.cellsOf 3)) = some y1 := (hf 1 _ rfl).trans g1
  rw [cells3] at t1
  have t2 : DataW.trod enc Try.prog W 0 spare held n1 3 (([c0, c1, c2, c3, c4, c5, c6].drop 2).take (Try.prog.cellsOf 3)) = some y2 := (hf 2 _ rfl).trans g2
  rw [cells3] at t2
  have t3 : DataW.trod enc Try.prog W 0 spare held n1 5 (([c0, c1, c2, c3, c4, c5, c6].drop 3).take (Try.prog.cellsOf 5)) = some y3 := (hf 3 _ rfl).trans g3
  rw [cells5] at t3
  have t4 : DataW.trod enc Try.prog W 0 spare held n1 67 (([c0, c1, c2, c3, c4, c5, c6].drop 4).take (Try.prog.cellsOf 67)) = some y4 := (hf 4 _ rfl).trans g4
  rw [cells67] at t4
  obtain ⟨x0, e0, -, -⟩ := DataW.trod_int Try.underlying3 t0
  obtain ⟨x1, e1, -, -⟩ := DataW.trod_int Try.underlying3 t1
  obtain ⟨x2, e2, -, -⟩ := DataW.trod_int Try.underlying3 t2
  obtain ⟨x3, e3, -, -⟩ := DataW.trod_int Try.underlying5 t3
  simp at e0 e1 e2 e3
  subst e0 e1 e2 e3
  obtain ⟨zs, n2, rfl, _, _, hzl, hz⟩ := DataW.trod_struct Try.underlying67 t4
  have hq : ∀ i, i < 3 → ∃ y, zs[i]? = some y := fun i hi => ⟨_, List.getElem?_eq_getElem (by rw [hzl]; exact hi)⟩
  obtain ⟨w0, q0⟩ := hq 0 (by omega)
  obtain ⟨w1, q1⟩ := hq 1 (by omega)
  obtain ⟨w2, q2⟩ := hq 2 (by omega)
  have s0 : DataW.trod enc Try.prog W 0 spare held n2 9 (([c4, c5, c6].drop 0).take (Try.prog.cellsOf 9)) = some w0 := (hz 0 _ rfl).trans q0
  rw [cells9] at s0
  have s1 : DataW.trod enc Try.prog W 0 spare held n2 9 (([c4, c5, c6].drop 1).take (Try.prog.cellsOf 9)) = some w1 := (hz 1 _ rfl).trans q1
  rw [cells9] at s1
  have s2 : DataW.trod enc Try.prog W 0 spare held n2 65 (([c4, c5, c6].drop 2).take (Try.prog.cellsOf 65)) = some w2 := (hz 2 _ rfl).trans q2
  rw [cells65] at s2
  obtain ⟨f, e4, -, hf4⟩ := DataW.trod_string Try.underlying9 s0
  obtain ⟨t, e5, -, ht5⟩ := DataW.trod_string Try.underlying9 s1
  obtain ⟨a, len, cap, bs, e6, hl6, hb6, hr6⟩ := open_bytes5 (v := c6) s2
  simp at e4 e5
  subst e4 e5 e6
  exact ⟨⟨x0, x1, x2, x3, f, t, a, len, cap⟩, rfl, hf4, ht5, hl6, bs, hb6, hr6⟩
end

set_option maxRecDepth 100000 in
/-- The slice of calls that came in, opened. -/
theorem open_actz {H : Type} {enc : TypeId × Value → H} {W : World} {v : Value} {d : DataW H} {p : List MemPlace} {base : Nat} (hv : Value.okWide Try.prog W .any base 70 v) (h : DataW.Trod enc Try.prog W 0 (fun _ => true) true 70 v d p) :
    ∃ (a : Option Addr) (n cap : Nat) (A : Nat → ActV), v = .slice a n cap ∧ Actz W a n cap A := by
  obtain ⟨a0, len0, cap0, rfl⟩ := okWide_slice Try.underlying70 hv
  obtain ⟨fuel, hf⟩ := h
  rcases open_slice Try.underlying70 hf with ⟨hcs, -⟩ | ⟨a, len, cap, m, n', D, Pl, hcs, _, hl, hm, hmm, _, hi⟩
  · simp [Value.cells] at hcs
    obtain ⟨rfl, rfl, rfl⟩ := hcs
    exact ⟨none, 0, 0, fun _ => ⟨0, 0, 0, 0, ByteArray.empty, ByteArray.empty, none, 0, 0⟩, rfl, ⟨by omega, by omega, fun h => by omega, fun j hj => by omega, fun j hj => by omega⟩⟩
  · simp [Value.cells] at hcs
    obtain ⟨rfl, rfl, rfl⟩ := hcs
    have hmc : m = cap0 := by simpa using hmm
    have hall : ∀ k, ∃ x : ActV, k < len0 → (∀ i u, x.cells[i]? = some u → W.cell? (a.add (k * 7 + i)) = some u) ∧ x.fr.size ≤ maxLen ∧ x.to.size ≤ maxLen ∧ x.len ≤ maxLen ∧ ∃ bs, bs.length = x.len ∧ Rd W (.slice x.a x.len x.cap) bs := by
      intro k
      by_cases hk : k < len0
      · obtain ⟨cs', hc, ht⟩ := hi k (by omega)
        rw [cells73] at hc
        obtain ⟨_, hcl, hat⟩ := World.cells?_some hc
        obtain ⟨x, rfl, h1, h2, h3, h4⟩ := open_act ht
        refine ⟨x, fun _ => ⟨fun i u hu => ?_, h1, h2, h3, h4⟩⟩
        have hi7 : i < 7 := (List.getElem?_eq_some_iff.1 hu).1
        rw [← Go.Deep.add_add, hat i hi7, hu]
      · exact ⟨⟨0, 0, 0, 0, ByteArray.empty, ByteArray.empty, none, 0, 0⟩, fun h => absurd h hk⟩
    obtain ⟨A, hA⟩ := Classical.skolem.1 hall
    have hml : maxLen ≤ 9223372036854775807 := by unfold maxLen; omega
    refine ⟨some a, len0, cap0, A, rfl, ⟨by omega, by omega, fun h0 => ?_, fun j hj => ?_, fun j hj => (hA j hj).2.2.2.2⟩⟩
    · have ha : a = ⟨a.block, a.off, none⟩ := spot_none (by simpa [Addr.add] using (hA 0 h0).1 0 _ rfl)
      refine ⟨a.block, a.off, by rw [← ha], fun j hj i u hu => ?_⟩
      have := (hA j hj).1 i u hu
      rw [add_at ha] at this
      simpa [Nat.add_assoc] using this
    · have := hA j hj
      exact ⟨by omega, by omega, by omega⟩

set_option maxRecDepth 100000 in
theorem lifted (os : Os) (started : os.Started) (H : Type) (enc : TypeId × Value → H) :
    ReturnsInHanded {} Try.checked os 9 .any (Rows.networkConservesSpec.pre6 enc Try.prog Try.f9 Rows.networkConservesRow.domain false) (Rows.networkConservesSpec.post enc Try.prog Try.f9 false true false false) := by
  refine returnsInHanded_of_change (C := Try.checked) (show ownKnob Try.prog.godebug = none by kernel_rfl) started (by kernel_rfl) Try.func9
    (ChangeSpec.witness6 (enc := enc) (C := Try.checked) false ⟨#[], #[.slice none 0 0], []⟩ 8 (by kernel_rfl) (by kernel_rfl) (by kernel_rfl) (by kernel_rfl)) ?_
  intro W base args ds gs before hval0 hW hcnd _
  have hval : ∀ (j : Nat) t v, Try.f9.params[j]? = some t → args[j]? = some v → Value.okWide Try.prog W .any base t v := hval0
  have hW' : DataW.Whole enc Try.prog Try.f9.params.toList Rows.networkConservesSpec.vars false W args.toList ds gs before := hW
  obtain ⟨p, q, hA0, hV, rfl, hfz, hnd⟩ := hW
  have hA : DataW.TrodAll enc Try.prog W 0 (fun _ => true) true Try.f9.params.toList args.toList ds p := hA0
  rw [Try.params9] at hA hval
  obtain ⟨v0, d0, rfl, rfl, h0⟩ := trodAll_one hA
  obtain ⟨a, n, cap, A, rfl, ha⟩ := open_actz (hval 0 70 v0 rfl rfl) h0
  refine (conserves_in a n cap A W ha).mono fun e W' ⟨he, hb⟩ => ?_
  subst he
  exact ⟨_, rfl, post_law Try.laidOut' readable restypes Try.underlying4 rfl ⟨rfl, rfl, rfl⟩ hW' hb⟩

theorem over : Rows.networkConservesRow.holds Try.pinned (OpenSpec.ofChange Rows.networkConservesSpec) :=
  OpenClaim.holds_of_wide 9 Try.f9 rfl rfl rfl rfl rfl rfl rfl ⟨rfl, rfl, rfl, rfl, rfl⟩ rfl rfl rfl rfl rfl (by kernel_rfl) Try.func9 (by kernel_rfl)
    (of_decide_eq_true (by kernel_rfl)) (by unfold Func.isWrapper; first | (rw [if_pos (by decide +kernel)]; kernel_rfl) | (rw [if_neg (by decide +kernel)]; exact ⟨rfl, rfl⟩))
    (fun os started H enc _ => lifted os started H enc)

theorem proved : Rows.NetworkConservesSaid := over
#print axioms proved
end Go.Proofs.Yticnklmpplicfaa.networkConserves
