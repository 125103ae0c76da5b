/- The law NetworkFills, walked. -/
import Derived.Test.YticnklmpplicfaaNW
import Derived.Deep.LoopGhost
namespace Go.Proofs.Yticnklmpplicfaa
open Go.RowKit

/-- What holds between two rounds. -/
structure FInv (w : World) (g : Nat) (k : Nat) (s : CS) (wr : World) : Prop where
  net : Net wr g s
  below : Below w.heap.size w wr
  L : s.L = []
  next : s.next = s.H.length
  ids : ∀ f ∈ s.F, f.id < s.next
  E : s.E.length ≤ 2 * k
  H : s.H.length ≤ k
  own : ∀ q, Own g s q → w.heap.size ≤ q

theorem fi_last {F : List Fl} {f : Fl} (h : ∀ x ∈ F, x.id < f.id) : fi (F ++ [f]) f.id = some F.length := by
  refine fi_hit (f := f) (by simp) (by simp) fun j f' hj hf' => ?_
  rw [List.getElem?_append_left hj] at hf'
  have := h f' (List.mem_of_getElem? hf')
  have hne : f'.id ≠ f.id := by omega
  simpa using hne

theorem step_below {w W w' : World} {g : Nat} {s s' : CS} (h : Below w.heap.size w W) (hS : Step g W s w' s') (hs : ∀ k, Own g s k → w.heap.size ≤ k) : Below w.heap.size w w' :=
  h.trans (hS.kept.below h.size hs)

set_option maxHeartbeats 6400000 in
set_option maxRecDepth 20000 in
theorem fills_in (count b : Int) (w : World) (h0 : 0 ≤ count) (h1 : count ≤ 1100) (h2 : 2 ≤ b) (h3 : b ≤ 30) :
    Calls Try.prog 8 #[.int .i64 count, .int .i64 b] w fun e w' => e = .returned (.bool true) ∧ Below w.heap.size w w' := by
  have hkn := Lib.hid known48
  have N0 := Lib.hid (Net.start w)
  have z0 : ¬ count < 0 := by omega
  have z1 : ¬ count > 1100 := by omega
  have z2 : ¬ b < 2 := by omega
  have z3 : ¬ b > 30 := by omega
  have hd0 : decide (count < 0) = false := decide_eq_false z0
  have hd1 : decide (1100 < count) = false := decide_eq_false z1
  have hd2 : decide (b < 2) = false := decide_eq_false z2
  have hd3 : decide (30 < b) = false := decide_eq_false z3
  go_enter Try.func8, Try.ntmps8
  go_wp2_with fail
  go_loopg [6, 7, 8, 9, 10, 11, 12, 13] count.toNat (fun gg s6 s7 s8 s9 _ _ _ _ wr => ∃ (k : Nat) (s : CS), (k : Int) ≤ count ∧ count.toNat - k ≤ gg ∧ s6 = .int .i64 s.F.length ∧ s7 = .int .i64 s.H.length ∧ s8 = .int .i64 s.H.length ∧ s9 = .int .i64 k ∧ Aside (FInv w w.heap.size k s wr))
  case atStart =>
    refine ⟨0, CS.start, h0, by omega, rfl, rfl, rfl, rfl, ⟨N0.out, nbelow1 _ _, rfl, rfl, by simp [CS.start], by simp [CS.start], by simp [CS.start], ?_⟩⟩
    rintro q (e | e | e | e | e | ⟨p, hp, _⟩)
    · omega
    · cases e
    · cases e
    · cases e
    · cases e
    · cases hp
  case round =>
    obtain ⟨k, s, hk, hgg, rfl, rfl, rfl, rfl, I⟩ := hrel
    have kn := I.out.next
    have kH := I.out.H
    by_cases hlt : (k : Int) < count
    · have hr0 : Rd wr (.slice none 0 0) [] := ⟨⟨none, 0, rfl, fun _ => ⟨rfl, rfl⟩⟩, fun h => by simp at h⟩
      have hvd : validB { data := #[97] } { data := #[98] } 0 = true := by decide +kernel
      by_cases hfull : 64 ≤ s.F.length ∨ 1024 ≤ s.H.length
      · have hsd := Lib.hid (send_full w.heap.size s { data := #[97] } { data := #[98] } _ [] wr I.out.net hr0 hvd (by decide) (by decide) (by decide) hfull (by omega))
        clear hr0
        by_cases hf1 : 64 ≤ s.F.length
        · have hf1' : (64 : Int) ≤ (s.F.length : Int) := by omega
          go_wp2_with fail
          refine hsd.out.mono ?_; rintro e w1 ⟨rfl, hb⟩
          have HI : Aside (FInv w w.heap.size (k + 1) s w1) := ⟨I.out.net.below hb, nbelow_trans I.out.below hb, I.out.L, I.out.next, I.out.ids, by have := I.out.E; omega, by omega, I.out.own⟩
          clear hb
          go_wp2_with fail
          go_roundg (count.toNat - (k + 1))
          case measure => omega
          case rel => exact ⟨k + 1, s, by omega, by omega, rfl, rfl, rfl, by go_num, HI⟩
        · have hf1' : ¬ (64 : Int) ≤ (s.F.length : Int) := by omega
          have hf2' : (1024 : Int) ≤ (s.H.length : Int) := by omega
          go_wp2_with fail
          refine hsd.out.mono ?_; rintro e w1 ⟨rfl, hb⟩
          have HI : Aside (FInv w w.heap.size (k + 1) s w1) := ⟨I.out.net.below hb, nbelow_trans I.out.below hb, I.out.L, I.out.next, I.out.ids, by have := I.out.E; omega, by omega, I.out.own⟩
          clear hb
          go_wp2_with fail
          go_roundg (count.toNat - (k + 1))
          case measure => omega
          case rel => exact ⟨k + 1, s, by omega, by omega, rfl, rfl, rfl, by go_num, HI⟩
      · have hf1 : s.F.length < 64 := by omega
        have hf2 : s.H.length < 1024 := by omega
        have hE := I.out.E
        have hsd := Lib.hid (send_ok w.heap.size s { data := #[97] } { data := #[98] } _ [] wr I.out.net hr0 (fun k hk => by simp [Value.ownBlock] at hk) hvd (by decide) (by decide) (by decide) hf1 hf2 (by omega) (by omega) (by omega))
        have hf1' : ¬ (64 : Int) ≤ (s.F.length : Int) := by omega
        have hf2' : ¬ (1024 : Int) ≤ (s.H.length : Int) := by omega
        have hb0 : (b == 0) = false := by simp; omega
        clear hr0 hE
        go_wp2_with fail
        refine hsd.out.mono ?_; rintro e w1 hq
        obtain ⟨he, a1, c1, a2, c2, s1, S1, H1, F1, E1, x1, L1⟩ := hq.chg
        rw [kn] at he
        subst he
        have HI : Aside (FInv w w.heap.size (k + 1) s1 w1) := ⟨S1.net, step_below I.out.below S1 I.out.own, by rw [L1, I.out.L], by rw [x1, H1, kn]; simp, by
          intro f hf
          rw [F1] at hf
          rw [x1]
          rcases List.mem_append.1 hf with hf | hf
          · have := I.out.ids f hf; omega
          · have : f.id = s.next := by simp at hf; rw [hf]
            omega, by rw [E1]; have := I.out.E; simp; omega, by rw [H1]; simp; omega, fun q hq' => by
          rcases S1.own q hq' with h | h
          · exact I.out.own q h
          · exact Nat.le_trans I.out.below.size h⟩
        have hFl : s1.F.length = s.F.length + 1 := by rw [F1]; simp
        have hHl : s1.H.length = s.H.length + 1 := by rw [H1]; simp
        have hEl : s1.E.length ≤ 2 * k + 1 := by rw [E1]; have := I.out.E; simp; omega
        have hfi : fi s1.F (s.H.length : Int) = some s.F.length := by
          rw [F1]
          exact (congrArg (fi _) kn.symm).trans (fi_last (f := ⟨⟨{ data := #[97] }, { data := #[98] }, a2, c2, []⟩, s.next, s.H.length⟩) (fun x hx => I.out.ids x hx))
        have hfa : s1.F[s.F.length]? = some ⟨⟨{ data := #[97] }, { data := #[98] }, a2, c2, []⟩, s.next, s.H.length⟩ := by rw [F1]; simp
        have hFe : s1.F.eraseIdx s.F.length = s.F := by
          rw [F1, List.eraseIdx_append_of_length_le (Nat.le_refl _)]
          simp
        have HX := Lib.hid (And.intro hfi (And.intro hfa hFe))
        clear hq S1 H1 E1 x1 L1 F1 hfi hfa hFe
        go_wp2_with fail
        · refine (deliver_any w.heap.size s1 s.H.length s.F.length ⟨⟨{ data := #[97] }, { data := #[98] }, a2, c2, []⟩, s.next, s.H.length⟩ w1 HI.out.net (by rw [HI.out.L]; intro x hx; cases hx) HX.out.1 HX.out.2.1 (by omega) (by have := HI.out.E; omega) (show ({ data := #[97] } : ByteArray).size ≤ maxLen by decide +kernel) (show ({ data := #[98] } : ByteArray).size ≤ maxLen by decide +kernel)).mono ?_
          rintro e w2 ⟨bb, hbl, -, hb2⟩
          have hbf : bb = false := by
            rcases hbl with ⟨h, _⟩ | ⟨x, hx, _⟩
            · exact h
            · rw [HI.out.L] at hx; cases hx
          obtain ⟨rfl, -, s2, S2, H2, F2, E2, x2, L2, -⟩ := (hb2 hbf).chg HI.out.net HX.out.2.1
          rw [HX.out.2.2] at F2
          have HI2 : ∀ o, Aside (FInv w w.heap.size (k + 1) s2 (w2.alloc o)) := fun o => by
            have hbl2 := step_below HI.out.below S2 HI.out.own
            exact ⟨S2.net.alloc _, nbelow_alloc hbl2 _, by rw [L2, HI.out.L], by rw [x2, H2, HI.out.next], by
              intro f hf
              rw [x2]
              exact HI.out.ids f (List.mem_of_mem_eraseIdx (i := s.F.length) (by rw [HX.out.2.2]; rw [F2] at hf; exact hf)), by rw [E2]; simp; omega, by rw [H2]; exact HI.out.H, fun q hq' => by
              rcases S2.own q hq' with h | h
              · exact HI.out.own q h
              · exact Nat.le_trans HI.out.below.size h⟩
          have hFl2 : s2.F.length = s.F.length := by rw [F2]
          have hHl2 : s2.H.length = s.H.length + 1 := by rw [H2, hHl]
          clear hbl hb2 hbf S2 F2 E2 x2 L2 H2
          unfold Pk.v
          go_wp2_with fail
          go_roundg (count.toNat - (k + 1))
          case measure => omega
          case rel => exact ⟨k + 1, s2, by omega, by omega, by rw [hFl2], by rw [hHl2]; simp, by rw [hHl2]; simp, by go_num, HI2 _⟩
        · go_roundg (count.toNat - (k + 1))
          case measure => omega
          case rel => exact ⟨k + 1, s1, by omega, by omega, by rw [hFl]; simp, by rw [hHl]; simp, by rw [hHl]; simp, by go_num, HI⟩
    · have hlt' : ¬ (k : Int) < count := hlt
      go_wp2_with fail
      refine (hkn.out wr).mono ?_; rintro e w1 ⟨rfl, hb⟩
      have HB := Lib.hid (nbelow_trans I.out.below hb)
      clear hb
      go_wp2_with fail
      go_ret
      exact ⟨rfl, HB.out⟩

set_option maxHeartbeats 1600000 in
set_option maxRecDepth 20000 in
theorem law_fills (count b : Int) (w : World) : Calls Try.prog 8 #[.int .i64 count, .int .i64 b] w fun e w' => e = .returned (.bool true) ∧ Below w.heap.size w w' := by
  have hkn := Lib.hid known48
  by_cases c0 : count < 0
  · have hd0 : decide (count < 0) = true := decide_eq_true c0
    go_enter Try.func8, Try.ntmps8
    go_wp2_with fail
    refine (hkn.out _).mono ?_; rintro e w1 ⟨rfl, hb⟩
    have HB := Lib.hid hb
    clear hb
    go_wp2_with fail
    go_ret
    exact ⟨rfl, HB.out⟩
  have hd0 : decide (count < 0) = false := decide_eq_false c0
  by_cases c1 : 1100 < count
  · have hd1 : decide (1100 < count) = true := decide_eq_true c1
    go_enter Try.func8, Try.ntmps8
    go_wp2_with fail
    refine (hkn.out _).mono ?_; rintro e w1 ⟨rfl, hb⟩
    have HB := Lib.hid hb
    clear hb
    go_wp2_with fail
    go_ret
    exact ⟨rfl, HB.out⟩
  have hd1 : decide (1100 < count) = false := decide_eq_false c1
  by_cases c2 : b < 2
  · have hd2 : decide (b < 2) = true := decide_eq_true c2
    go_enter Try.func8, Try.ntmps8
    go_wp2_with fail
    refine (hkn.out _).mono ?_; rintro e w1 ⟨rfl, hb⟩
    have HB := Lib.hid hb
    clear hb
    go_wp2_with fail
    go_ret
    exact ⟨rfl, HB.out⟩
  have hd2 : decide (b < 2) = false := decide_eq_false c2
  by_cases c3 : 30 < b
  · have hd3 : decide (30 < b) = true := decide_eq_true c3
    go_enter Try.func8, Try.ntmps8
    go_wp2_with fail
    refine (hkn.out _).mono ?_; rintro e w1 ⟨rfl, hb⟩
    have HB := Lib.hid hb
    clear hb
    go_wp2_with fail
    go_ret
    exact ⟨rfl, HB.out⟩
  exact fills_in count b w (by omega) (by omega) (by omega) (by omega)

end Go.Proofs.Yticnklmpplicfaa
