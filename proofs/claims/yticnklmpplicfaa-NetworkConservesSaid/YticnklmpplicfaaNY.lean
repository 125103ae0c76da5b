/- The contract of few. -/
import Derived.Test.YticnklmpplicfaaNW
import Derived.Deep.LoopGhost
namespace Go.Proofs.Yticnklmpplicfaa
open Go.RowKit

/-- A call, as the law is given it. -/
structure ActV where
  what : Int
  id : Int
  off : Int
  mask : Int
  fr : ByteArray
  to : ByteArray
  a : Option Addr
  len : Nat
  cap : Nat
def ActV.cells (x : ActV) : List Value := [.int .i64 x.what, .int .i64 x.id, .int .i64 x.off, .int .u8 x.mask, .string x.fr, .string x.to, .slice x.a x.len x.cap]
def ActV.small (x : ActV) : Bool := decide (x.fr.size ≤ 100) && (decide (x.to.size ≤ 100) && decide (x.len ≤ 100))

/-- A slice of calls lies at an address. -/
def Acts (w : World) (b off n : Nat) (A : Nat → ActV) : Prop := ∀ j, j < n → ∀ i u, (A j).cells[i]? = some u → w.cell? ⟨b, off + j * 7 + i, none⟩ = some u

set_option maxHeartbeats 1600000 in
set_option maxRecDepth 20000 in
theorem few_any (b off n cap : Nat) (most : Int) (A : Nat → ActV) (w : World) (hA : Acts w b off n A) (hm : (n : Int) ≤ most) (hn : n ≤ 1000000) (hcap : n ≤ cap)
    (hs : ∀ j, j < n → (A j).fr.size ≤ 9223372036854775807 ∧ (A j).to.size ≤ 9223372036854775807 ∧ (A j).len ≤ 9223372036854775807) :
    Calls Try.prog 27 #[.slice (some ⟨b, off, none⟩) n cap, .int .i64 most] w fun e w' => (e = .returned (.bool false) ∨ e = .returned (.bool true) ∧ ∀ j, j < n → (A j).small = true) ∧ w = w' := by
  have HA := Lib.hid hA
  have HS := Lib.hid hs
  clear hA hs
  have hm' : ¬ most < (n : Int) := by omega
  go_enter Try.func27, Try.ntmps27
  go_wp2_with fail
  go_loopg [5] n (fun gg s5 wr => ∃ k : Nat, k ≤ n ∧ n - k ≤ gg ∧ s5 = .int .i64 k ∧ Aside (w = wr) ∧ Aside (∀ j, j < k → (A j).small = true))
  case atStart => exact ⟨0, Nat.zero_le _, by omega, rfl, rfl, fun j hj => absurd hj (Nat.not_lt_zero _)⟩
  case round =>
    obtain ⟨k, hk, hg, rfl, E, I⟩ := hrel
    have E' := E.out
    subst E'
    by_cases hlt : k < n
    · have hltz : (k : Int) < (n : Int) := by omega
      have hc := HA.out k hlt
      have y4 := hc 4 (.string (A k).fr) rfl
      have y5 := hc 5 (.string (A k).to) rfl
      have y6 := hc 6 (.slice (A k).a (A k).len (A k).cap) rfl
      have hz := HS.out k hlt
      obtain ⟨z1, z2, z3⟩ := hz
      have HSm := Lib.hid (show ∀ (h1 : (A k).fr.size ≤ 100) (h2 : (A k).to.size ≤ 100) (h3 : (A k).len ≤ 100), (A k).small = true from fun h1 h2 h3 => by simp [ActV.small, h1, h2, h3])
      generalize hx : A k = x at y4 y5 y6 z1 z2 z3 HSm
      have HX := Lib.hid hx
      clear hx
      clear hc
      by_cases c1 : x.fr.size ≤ 100
      · have d1 : decide ((100 : Int) < (x.fr.size : Int)) = false := decide_eq_false (by omega)
        by_cases c2 : x.to.size ≤ 100
        · have d2 : decide ((100 : Int) < (x.to.size : Int)) = false := decide_eq_false (by omega)
          by_cases c3 : x.len ≤ 100
          · have d3 : decide ((100 : Int) < (x.len : Int)) = false := decide_eq_false (by omega)
            have hsm := HSm.out c1 c2 c3
            go_wp2_with fail
            go_roundg (n - (k + 1))
            case measure => omega
            case rel => exact ⟨k + 1, by omega, by omega, by go_num, rfl, (show Aside _ from fun j hj => by
              by_cases e : j = k
              · subst e
                rw [HX.out]; exact hsm
              · exact I.out j (by omega))⟩
          · have d3 : decide ((100 : Int) < (x.len : Int)) = true := decide_eq_true (by omega)
            go_wp2_with fail
            go_ret
            exact ⟨.inl rfl, rfl⟩
        · have d2 : decide ((100 : Int) < (x.to.size : Int)) = true := decide_eq_true (by omega)
          go_wp2_with fail
          go_ret
          exact ⟨.inl rfl, rfl⟩
      · have d1 : decide ((100 : Int) < (x.fr.size : Int)) = true := decide_eq_true (by omega)
        go_wp2_with fail
        go_ret
        exact ⟨.inl rfl, rfl⟩
    · have hltz : ¬ (k : Int) < (n : Int) := by omega
      have : k = n := by omega
      subst this
      go_wp2
      go_ret
      exact ⟨.inr ⟨rfl, I.out⟩, rfl⟩

end Go.Proofs.Yticnklmpplicfaa
