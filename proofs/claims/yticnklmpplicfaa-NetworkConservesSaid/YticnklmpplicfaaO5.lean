/- few, at any slice. -/
import Derived.Test.YticnklmpplicfaaO4
namespace Go.Proofs.Yticnklmpplicfaa
open Go.RowKit

set_option maxHeartbeats 800000 in
theorem few_long (a : Option Addr) (n cap : Nat) (w : World) (h : 40 < n) (hn : n ≤ 9223372036854775807) :
    Calls Try.prog 27 #[.slice a n cap, .int .i64 40] w fun e w' => e = .returned (.bool false) ∧ w = w' := by
  have h' : (40 : Int) < (n : Int) := by omega
  go_enter Try.func27, Try.ntmps27
  go_wp2_with fail
  go_ret
  exact ⟨rfl, rfl⟩

set_option maxHeartbeats 800000 in
set_option maxRecDepth 20000 in
theorem few_zero (a : Option Addr) (cap : Nat) (w : World) :
    Calls Try.prog 27 #[.slice a 0 cap, .int .i64 40] w fun e w' => e = .returned (.bool true) ∧ w = w' := by
  go_enter Try.func27, Try.ntmps27
  go_wp2_with fail
  go_loopg [5] 0 (fun _ s5 wr => s5 = .int .i64 0 ∧ Aside (w = wr))
  case atStart => exact ⟨rfl, rfl⟩
  case round =>
    obtain ⟨rfl, E⟩ := hrel
    go_wp2_with fail
    go_ret
    exact ⟨rfl, E.out⟩

/-- A slice of calls, at its address if there are any. -/
structure Actz (w : World) (a : Option Addr) (n cap : Nat) (A : Nat → ActV) : Prop where
  len : n ≤ 9223372036854775807
  cap : n ≤ cap
  at_ : 0 < n → ∃ b off, a = some ⟨b, off, none⟩ ∧ Acts w b off n A
  sz : ∀ j, j < n → (A j).fr.size ≤ 9223372036854775807 ∧ (A j).to.size ≤ 9223372036854775807 ∧ (A j).len ≤ 9223372036854775807
  rd : ∀ j, j < n → ∃ bs, bs.length = (A j).len ∧ Rd w (.slice (A j).a (A j).len (A j).cap) bs

theorem few_all (a : Option Addr) (n cap : Nat) (A : Nat → ActV) (w : World) (h : Actz w a n cap A) :
    Calls Try.prog 27 #[.slice a n cap, .int .i64 40] w fun e w' => (e = .returned (.bool false) ∨ e = .returned (.bool true) ∧ n ≤ 40 ∧ ∀ j, j < n → (A j).small = true) ∧ w = w' := by
  have hl := h.len
  by_cases h40 : 40 < n
  · exact (few_long a n cap w h40 (by omega)).mono fun e w' hq => ⟨.inl hq.1, hq.2⟩
  · by_cases h0 : n = 0
    · subst h0
      exact (few_zero a cap w).mono fun e w' hq => ⟨.inr ⟨hq.1, by omega, fun j hj => by omega⟩, hq.2⟩
    · obtain ⟨b, off, rfl, hA⟩ := h.at_ (by omega)
      exact (few_any b off n cap 40 A w hA (by omega) (by omega) h.cap h.sz).mono fun e w' hq => ⟨hq.1.imp id (fun q => ⟨q.1, by omega, q.2⟩), hq.2⟩

end Go.Proofs.Yticnklmpplicfaa
