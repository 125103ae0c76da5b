/- The contract of Block. -/
import Derived.Test.YticnklmpplicfaaNR
namespace Go.Proofs.Yticnklmpplicfaa
open Go.RowKit

set_option maxHeartbeats 1600000 in
set_option maxRecDepth 20000 in
theorem block_arg (g : Nat) (f t : ByteArray) (w : World) (hf0 : f.size ≤ 9223372036854775807) (ht0 : t.size ≤ 9223372036854775807) (h : (hostB f && hostB t) = false) :
    Calls Try.prog 36 #[.pointer (some ⟨g, 0, none⟩), .string f, .string t] w (Fail1 w 2) := by
  have h1 := validHost_any f w hf0
  have h2 := validHost_any t w ht0
  rcases q1 : hostB f with _ | _
  · rw [q1] at h1
    clear h2 h
    go_enter Try.func36, Try.ntmps36
    go_wp2_with fail
    refine h1.mono ?_; rintro e w1 ⟨rfl, rfl⟩
    clear h1
    go_wp2_with fail
    exact bodyPost_ret (v := .int .i64 2) (by simp [results, Try.results36, go_sem]) rfl ⟨rfl, Below.refl _ _⟩
  · have q2 : hostB t = false := by rw [q1] at h; simpa using h
    rw [q1] at h1
    rw [q2] at h2
    clear h
    go_enter Try.func36, Try.ntmps36
    go_wp2_with fail
    refine h1.mono ?_; rintro e w1 ⟨rfl, rfl⟩
    clear h1
    go_wp2_with fail
    refine h2.mono ?_; rintro e w1 ⟨rfl, rfl⟩
    clear h2
    go_wp2_with fail
    exact bodyPost_ret (v := .int .i64 2) (by simp [results, Try.results36, go_sem]) rfl ⟨rfl, Below.refl _ _⟩

theorem eqlIn_map (d : Nat) (m : Option Nat) (w : World) : (Op.equalIn (d + 1) 60 (.map m) (.map none)).run Try.prog w = .ok m.isNone w := by
  cases m <;> simp [Op.equalIn, run_underlying Try.map60]
theorem eql_map (m : Option Nat) (w : World) : (binOp .eql 60 (.map m) (.map none)).run Try.prog w = .ok (.bool m.isNone) w := by
  simp only [binOp]
  simp [Op.equal, Op.maxDepth, eqlIn_map 9999 m w]

theorem makeMap_run (w : World) : (Instr.makeMap 60 none).run Try.prog w = .ok (.map (some w.heap.size)) (w.alloc (.map #[] 0)) := by
  simp [Instr.makeMap, newObj, Sem.run]

set_option maxHeartbeats 1600000 in
set_option maxRecDepth 20000 in
theorem block_ok (g : Nat) (s : CS) (f t : ByteArray) (w : World) (h : Net w g s) (hL : Short s.L) (hf0 : f.size ≤ 9223372036854775807) (ht0 : t.size ≤ 9223372036854775807) (hq1 : hostB f = true) (hq2 : hostB t = true) :
    Calls Try.prog 36 #[.pointer (some ⟨g, 0, none⟩), .string f, .string t] w fun e w' => e = .returned (.int .i64 0) ∧ ∃ m L, Step g w s w' { s with m := m, L := L } ∧ Short L ∧ (s.L = [] → L = [((f, t), true)]) := by
  have h1 := validHost_any f w hf0
  have h2 := validHost_any t w ht0
  rw [hq1] at h1
  rw [hq2] at h2
  have HF0 := Lib.hid (show f.size ≤ maxLen by unfold maxLen; omega)
  have HT0 := Lib.hid (show t.size ≤ maxLen by unfold maxLen; omega)
  have b3 : w.cell? ⟨g, 3, none⟩ = some (.map s.m) := h.blk.cell 3
  have f3 := h.blk.frozen 3
  have lg := h.blk.lt
  have HH := Lib.hid h
  have HLs := Lib.hid hL
  clear h hL
  rcases hm : s.m with _ | k
  · rw [hm] at b3
    have hS1 := newMap HH.out (HH.out.map.nil_ hm)
    rw [World.setCell_alloc_past _ _ _ _ lg] at hS1
    obtain ⟨es, clock, hh, he⟩ := hS1.net.map.some_ w.heap.size rfl
    obtain ⟨es', clock', L', hup, he', hL', hnil⟩ := update_any _ hh he HLs.out f t HF0.out HT0.out
    have hS2 := putMap (clock := clock') hS1.net rfl he'
    have hSS := hS1.trans hS2
    generalize { (w.setCell ⟨g, 3, none⟩ (.map (some w.heap.size))).alloc (.map #[] 0) with heap := ((w.setCell ⟨g, 3, none⟩ (.map (some w.heap.size))).alloc (.map #[] 0)).heap.setIfInBounds w.heap.size (.map es' clock') } = W2 at hup hSS hS2
    have HS := Lib.hid hSS
    have HR := Lib.hid (And.intro hL' hnil)
    have hmk := makeMap_run w
    have hem : ∀ W, (binOp .eql 60 (.map none) (.map none)).run Try.prog W = .ok (.bool true) W := fun W => eql_map none W
    unfold kv at hup
    clear hS1 hS2 hSS he he' hL' hnil hh
    go_enter Try.func36, Try.ntmps36
    go_wp2_with fail
    refine h1.mono ?_; rintro e w1 ⟨rfl, rfl⟩
    clear h1
    go_wp2_with fail
    refine h2.mono ?_; rintro e w1 ⟨rfl, rfl⟩
    clear h2
    go_wp2_with fail
    exact bodyPost_ret (v := .int .i64 0) (by simp [results, Try.results36, go_sem]) rfl ⟨rfl, _, _, HS.out, HR.out.1, HR.out.2⟩
  · rw [hm] at b3
    obtain ⟨es, clock, hh, he⟩ := HH.out.map.some_ k hm
    obtain ⟨es', clock', L', hup, he', hL', hnil⟩ := update_any _ hh he HLs.out f t HF0.out HT0.out
    have hS2 := putMap (clock := clock') HH.out hm he'
    generalize { w with heap := w.heap.setIfInBounds k (.map es' clock') } = W2 at hup hS2
    have HS := Lib.hid hS2
    have HR := Lib.hid (And.intro hL' hnil)
    have hem : ∀ W, (binOp .eql 60 (.map (some k)) (.map none)).run Try.prog W = .ok (.bool false) W := fun W => eql_map (some k) W
    unfold kv at hup
    clear hS2 he he' hL' hnil hh
    go_enter Try.func36, Try.ntmps36
    go_wp2_with fail
    refine h1.mono ?_; rintro e w1 ⟨rfl, rfl⟩
    clear h1
    go_wp2_with fail
    refine h2.mono ?_; rintro e w1 ⟨rfl, rfl⟩
    clear h2
    go_wp2_with fail
    exact bodyPost_ret (v := .int .i64 0) (by simp [results, Try.results36, go_sem]) rfl ⟨rfl, s.m, _, HS.out, HR.out.1, HR.out.2⟩

end Go.Proofs.Yticnklmpplicfaa
