/- The contract of Send where it fails. -/
import Derived.Test.YticnklmpplicfaaNI
namespace Go.Proofs.Yticnklmpplicfaa
open Go.RowKit

section
variable {P : Program} {a : Act} {w : World} {Q : Exit → Act → World → Prop}
/-- A scope that is left by a jump forward: what stands behind the label runs without a jump. -/
theorem wp_scope_on {c rest : Code} (l : Nat) (hf : findLabel c l = some rest) (first : c.wp P (Exit.jump l (fun a w => rest.wp P (Exit.noGoto Q) a w) Q) a w) : (Code.scope c).wp P Q a w := by
  refine wp_scope_jumps l (fun a w => rest.wp P (Exit.noGoto Q) a w) (fun _ _ => 0) hf first fun a w h b k cs => ?_
  obtain ⟨e, a', w', hq, harr⟩ := h b k cs
  refine ⟨e, a', w', ?_, harr⟩
  cases e with
  | goto l' => exact hq.elim
  | normal => exact hq
  | exit id => exact hq
  | ret => exact hq
  | panic ch => exact hq
  | outgrown => exact hq
end

set_option maxHeartbeats 1600000 in
set_option maxRecDepth 20000 in
theorem send_invalid (g : Nat) (f t : ByteArray) (v : Value) (bs : List Int) (w : World) (hr : Rd w v bs) (hv : validB f t bs.length = false) (hf0 : f.size ≤ 9223372036854775807) (ht0 : t.size ≤ 9223372036854775807) (hn : bs.length ≤ 9223372036854775807) :
    Calls Try.prog 25 #[.pointer (some ⟨g, 0, none⟩), .agg #[.string f, .string t, v]] w (Fail2 w 0 2) := by
  obtain ⟨a, cap, rfl, -⟩ := hr.form
  have hv' := valid_any f t a bs.length cap (w.alloc (.cells #[.string f, .string t, .slice a bs.length cap] 67)) hf0 ht0 (by omega)
  rw [hv] at hv'
  clear hr
  go_enter Try.func25, Try.ntmps25
  go_wp2_with fail
  refine wp_scope_on 0 (by rfl) ?_
  go_wp2_with fail
  refine hv'.mono ?_; rintro e w1 ⟨rfl, hb1⟩
  have HP := Lib.hid (nbelow_box hb1)
  clear hv' hb1
  go_wp2_with fail
  go_step3
  refine ⟨rfl, ?_⟩
  go_wp2_with fail
  try rw [Exit.noGoto_ret]
  exact bodyPost_ret (v := .tuple #[.int .i64 0, .int .i64 2]) (by simp [results, Try.results25, go_sem]) rfl ⟨rfl, HP.out⟩

set_option maxHeartbeats 1600000 in
set_option maxRecDepth 20000 in
theorem send_full (g : Nat) (s : CS) (f t : ByteArray) (v : Value) (bs : List Int) (w : World) (h : Net w g s) (hr : Rd w v bs) (hv : validB f t bs.length = true) (hf0 : f.size ≤ 9223372036854775807) (ht0 : t.size ≤ 9223372036854775807) (hn : bs.length ≤ 9223372036854775807)
    (hfull : 64 ≤ s.F.length ∨ 1024 ≤ s.H.length) (hH : s.H.length ≤ 1000000) :
    Calls Try.prog 25 #[.pointer (some ⟨g, 0, none⟩), .agg #[.string f, .string t, v]] w (Fail2 w 0 7) := by
  obtain ⟨a, cap, rfl, -⟩ := hr.form
  have HH := Lib.hid h
  have hv' := valid_any f t a bs.length cap (w.alloc (.cells #[.string f, .string t, .slice a bs.length cap] 67)) hf0 ht0 (by omega)
  rw [hv] at hv'
  clear hr h
  go_enter Try.func25, Try.ntmps25
  go_wp2_with fail
  refine wp_scope_on 0 (by rfl) ?_
  go_wp2_with fail
  refine hv'.mono ?_; rintro e w1 ⟨rfl, hb1⟩
  have hn1 := (HH.out.alloc (.cells #[.string f, .string t, .slice a bs.length cap] 67)).below hb1
  have hfl := full_any g s w1 hn1
  have b0 : w1.cell? ⟨g, 0, none⟩ = some s.hv := hn1.blk.cell 0
  have l1 := hn1.blk.lt
  unfold CS.hv at b0
  have HP := Lib.hid (nbelow_box hb1)
  clear hv' hb1 hn1
  rcases hq : decide (64 ≤ s.F.length) with _ | _
  · have hH2 : (1024 : Int) ≤ (s.H.length : Int) := by
      have : ¬ 64 ≤ s.F.length := by simpa using hq
      omega
    rw [hq] at hfl
    clear hq
    go_wp2_with fail
    refine hfl.mono ?_; rintro e w1' ⟨rfl, rfl⟩
    clear hfl
    go_wp2_with fail
    go_step3
    refine ⟨rfl, ?_⟩
    go_wp2_with fail
    try rw [Exit.noGoto_ret]
    exact bodyPost_ret (v := .tuple #[.int .i64 0, .int .i64 7]) (by simp [results, Try.results25, go_sem]) rfl ⟨rfl, HP.out⟩
  · rw [hq] at hfl
    clear hq
    go_wp2_with fail
    refine hfl.mono ?_; rintro e w1' ⟨rfl, rfl⟩
    clear hfl
    go_wp2_with fail
    go_step3
    refine ⟨rfl, ?_⟩
    go_wp2_with fail
    try rw [Exit.noGoto_ret]
    exact bodyPost_ret (v := .tuple #[.int .i64 0, .int .i64 7]) (by simp [results, Try.results25, go_sem]) rfl ⟨rfl, HP.out⟩

end Go.Proofs.Yticnklmpplicfaa
