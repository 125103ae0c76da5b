/- The contracts of bytes.Equal, equal, Same, Genuine. -/
import Derived.Test.YticnklmpplicfaaNN
import Derived.Laws.BytesString
namespace Go.Proofs.Yticnklmpplicfaa
open Go.RowKit

/-- Bytes as a string. -/
def strN (bs : List Int) : ByteArray := bs.foldl (fun r n => r.push (UInt8.ofNat n.toNat)) ByteArray.empty

theorem rd_conv {w : World} {a : Option Addr} {bs : List Int} {cap : Nat} (h : Rd w (.slice a bs.length cap) bs) : (convert 65 9 (.slice a bs.length cap)).run Try.prog w = .ok (.string (strN bs)) w := by
  rw [run_convert_bytes_string w 65 9 5 a bs.length cap Try.underlying65 Try.underlying5 Try.underlying9]
  cases a with
  | none =>
    obtain ⟨a', c', e, h2⟩ := h.form
    injection e with e _ _
    obtain ⟨rfl, _⟩ := h2 e.symm
    rfl
  | some ad =>
    refine run_bytesToString w ad bs.length cap bs ?_
    have := run_loadCells_list (P := Try.prog) (w := w) ad (u8s bs) (fun j v hj => ?_)
    · rw [u8s_len] at this
      exact this
    · have hj' : j < bs.length := by rw [← u8s_len bs]; exact (List.getElem?_eq_some_iff.1 hj).1
      obtain ⟨b, off, cap', hv, hc⟩ := h.cells (by omega)
      have hae : ad = ⟨b, off, none⟩ := by injection hv with h1; injection h1
      subst hae
      rw [Addr.add_lit, hc j hj', ← hj]
      simp [u8s, hj']

theorem bequal_any (a1 a2 : Option Addr) (xs ys : List Int) (c1 c2 : Nat) (w : World) (h1 : Rd w (.slice a1 xs.length c1) xs) (h2 : Rd w (.slice a2 ys.length c2) ys) :
    Calls Try.prog 70 #[.slice a1 xs.length c1, .slice a2 ys.length c2] w fun e w' => e = .returned (.bool ((strN xs).toList == (strN ys).toList)) ∧ w = w' := by
  have e1 := rd_conv h1
  have e2 := rd_conv h2
  clear h1 h2
  go_enter Try.func70, Try.ntmps70
  go_wp2
  go_ret
  exact ⟨rfl, rfl⟩

/-- Packets that read as equal. -/
def sameB (f t : ByteArray) (xs : List Int) (f' t' : ByteArray) (ys : List Int) : Bool := f.toList == f'.toList && (t.toList == t'.toList && (strN xs).toList == (strN ys).toList)

set_option maxHeartbeats 1600000 in
set_option maxRecDepth 20000 in
theorem equal_any (f t f' t' : ByteArray) (a1 a2 : Option Addr) (xs ys : List Int) (c1 c2 : Nat) (w : World) (h1 : Rd w (.slice a1 xs.length c1) xs) (h2 : Rd w (.slice a2 ys.length c2) ys) :
    Calls Try.prog 60 #[.agg #[.string f, .string t, .slice a1 xs.length c1], .agg #[.string f', .string t', .slice a2 ys.length c2]] w fun e w' => e = .returned (.bool (sameB f t xs f' t' ys)) ∧ Below w.heap.size w w' := by
  have hb := bequal_any a1 a2 xs ys c1 c2 _ ((h1.alloc (.cells #[.string f, .string t, .slice a1 xs.length c1] 67)).alloc (.cells #[.string f', .string t', .slice a2 ys.length c2] 67)) ((h2.alloc _).alloc _)
  clear h1 h2
  have hbw := nbelow_alloc (nbelow1 w (.cells #[.string f, .string t, .slice a1 xs.length c1] 67)) (.cells #[.string f', .string t', .slice a2 ys.length c2] 67)
  have HB := Lib.hid hbw
  clear hbw
  rcases q1 : (f.toList == f'.toList) with _ | _
  · have hr : false = sameB f t xs f' t' ys := by simp [sameB, q1]
    have HR := Lib.hid hr
    clear hr
    go_enter Try.func60, Try.ntmps60
    go_wp2_with fail
    go_ret
    exact ⟨nret_bool HR.out, HB.out⟩
  · rcases q2 : (t.toList == t'.toList) with _ | _
    · have hr : false = sameB f t xs f' t' ys := by simp [sameB, q1, q2]
      have HR := Lib.hid hr
      clear hr
      go_enter Try.func60, Try.ntmps60
      go_wp2_with fail
      go_ret
      exact ⟨nret_bool HR.out, HB.out⟩
    · have hr : ((strN xs).toList == (strN ys).toList) = sameB f t xs f' t' ys := by simp [sameB, q1, q2]
      have HR := Lib.hid hr
      clear hr
      go_enter Try.func60, Try.ntmps60
      go_wp2_with fail
      refine hb.mono ?_; rintro e w1 ⟨rfl, rfl⟩
      go_wp2_with fail
      go_ret
      exact ⟨nret_bool HR.out, HB.out⟩

set_option maxHeartbeats 1600000 in
set_option maxRecDepth 20000 in
theorem same_pk (f t f' t' : ByteArray) (a1 a2 : Option Addr) (xs ys : List Int) (c1 c2 : Nat) (w : World) (h1 : Rd w (.slice a1 xs.length c1) xs) (h2 : Rd w (.slice a2 ys.length c2) ys) :
    Calls Try.prog 52 #[.agg #[.string f, .string t, .slice a1 xs.length c1], .agg #[.string f', .string t', .slice a2 ys.length c2]] w fun e w' => e = .returned (.bool (sameB f t xs f' t' ys)) ∧ Below w.heap.size w w' := by
  have e1 := rd_conv ((h1.alloc (.cells #[.string f, .string t, .slice a1 xs.length c1] 67)).alloc (.cells #[.string f', .string t', .slice a2 ys.length c2] 67))
  have e2 := rd_conv ((h2.alloc (.cells #[.string f, .string t, .slice a1 xs.length c1] 67)).alloc (.cells #[.string f', .string t', .slice a2 ys.length c2] 67))
  clear h1 h2
  have hbw := nbelow_alloc (nbelow1 w (.cells #[.string f, .string t, .slice a1 xs.length c1] 67)) (.cells #[.string f', .string t', .slice a2 ys.length c2] 67)
  have HB := Lib.hid hbw
  clear hbw
  rcases q1 : (f.toList == f'.toList) with _ | _
  · have hr : false = sameB f t xs f' t' ys := by simp [sameB, q1]
    have HR := Lib.hid hr
    clear hr
    go_enter Try.func52, Try.ntmps52
    go_wp2_with fail
    go_ret
    exact ⟨nret_bool HR.out, HB.out⟩
  · rcases q2 : (t.toList == t'.toList) with _ | _
    · have hr : false = sameB f t xs f' t' ys := by simp [sameB, q1, q2]
      have HR := Lib.hid hr
      clear hr
      go_enter Try.func52, Try.ntmps52
      go_wp2_with fail
      go_ret
      exact ⟨nret_bool HR.out, HB.out⟩
    · have hr : ((strN xs).toList == (strN ys).toList) = sameB f t xs f' t' ys := by simp [sameB, q1, q2]
      have HR := Lib.hid hr
      clear hr
      go_enter Try.func52, Try.ntmps52
      go_wp2_with fail
      go_ret
      exact ⟨nret_bool HR.out, HB.out⟩

end Go.Proofs.Yticnklmpplicfaa
