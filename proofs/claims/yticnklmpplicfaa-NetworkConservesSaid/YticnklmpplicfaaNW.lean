/- The example of the chapter. -/
import Derived.Test.YticnklmpplicfaaNV
import Derived.RangeFuncBound
import Derived.RangeFuncCalls
namespace Go.Proofs.Yticnklmpplicfaa
open Go.RowKit Go.Shelf

attribute [local go_sem] Oper.semAt_some

theorem Rd.two {w : World} {b : Nat} {x y : Int} (h : Blk w b 5 #[.int .u8 x, .int .u8 y]) : Rd w (.slice (some ⟨b, 0, none⟩) 2 2) [x, y] :=
  ⟨⟨_, _, rfl, fun e => by cases e⟩, fun _ => ⟨b, 0, 2, rfl, fun i hi => by
    rw [Nat.zero_add, h.cell i]
    match i, hi with
    | 0, _ => rfl
    | 1, _ => rfl
    | n + 2, hi => simp at hi; omega⟩⟩

/-- A state as its lists say. -/
structure Told (s : CS) (H : List Pk) (F : List Fl) (E : List Ev) (next : Int) (L : List ((ByteArray × ByteArray) × Bool)) : Prop where
  H : s.H = H
  F : s.F = F
  E : s.E = E
  x : s.next = next
  L : s.L = L

set_option maxHeartbeats 12800000 in
set_option maxRecDepth 100000 in
theorem known48 (w : World) : Calls Try.prog 24 #[] w fun e w' => e = .returned (.bool true) ∧ Below w.heap.size w w' := by
  refine (callsIn_wide (n := 6)).1 (callsIn_of_wp_marks Try.func24 rfl trivial (wpIn_wide.2 ?_) rfl)
  simp only [Try.ntmps24, List.size_toArray, List.length_nil, Nat.sub_zero, Array.replicate_succ, Array.replicate_zero, List.push_toArray, List.append_toArray, List.nil_append, List.cons_append]
  have N0 := Lib.hid (Net.start w)
  go_wp2_with fail
  have n0 : Net (((w.alloc (.cells #[.slice none 0 0, .slice none 0 0, .int .i64 0, .map none, .slice none 0 0] 63)).alloc (.cells #[.int .u8 1, .int .u8 2] 5)).alloc (.cells #[.string { data := #[97] }, .string { data := #[98] }, .slice (some ⟨w.heap.size + 1, 0, none⟩) 2 2] 67)) w.heap.size CS.start := (N0.out.alloc _).alloc _
  have r0 : Rd (((w.alloc (.cells #[.slice none 0 0, .slice none 0 0, .int .i64 0, .map none, .slice none 0 0] 63)).alloc (.cells #[.int .u8 1, .int .u8 2] 5)).alloc (.cells #[.string { data := #[97] }, .string { data := #[98] }, .slice (some ⟨w.heap.size + 1, 0, none⟩) 2 2] 67)) (.slice (some ⟨w.heap.size + 1, 0, none⟩) 2 2) [1, 2] := (Rd.two (Blk.new' _ _ _ _ (by simp))).alloc _
  have b0 : Below w.heap.size w (((w.alloc (.cells #[.slice none 0 0, .slice none 0 0, .int .i64 0, .map none, .slice none 0 0] 63)).alloc (.cells #[.int .u8 1, .int .u8 2] 5)).alloc (.cells #[.string { data := #[97] }, .string { data := #[98] }, .slice (some ⟨w.heap.size + 1, 0, none⟩) 2 2] 67)) := nbelow_alloc (nbelow_alloc (nbelow1 _ _) _) _
  generalize ((w.alloc (.cells #[.slice none 0 0, .slice none 0 0, .int .i64 0, .map none, .slice none 0 0] 63)).alloc (.cells #[.int .u8 1, .int .u8 2] 5)).alloc (.cells #[.string { data := #[97] }, .string { data := #[98] }, .slice (some ⟨w.heap.size + 1, 0, none⟩) 2 2] 67) = W0 at n0 r0 b0 ⊢
  have v0 : ∀ k, (Value.slice (some ⟨w.heap.size + 1, 0, none⟩) 2 2).ownBlock = some k → ¬ Own w.heap.size CS.start k := by
    intro k hk
    have : w.heap.size + 1 = k := by simpa [Value.ownBlock] using hk
    subst this
    rintro (e | e | e | e | e | ⟨p, hp, _⟩)
    · omega
    · cases e
    · cases e
    · cases e
    · cases e
    · cases hp
  refine (send_ok w.heap.size CS.start { data := #[97] } { data := #[98] } _ [1, 2] W0 n0 r0 v0 valid_known (by decide) (by decide) (by decide) (by decide) (by decide) (by decide) (by decide) (by decide)).mono ?_
  rintro e w1 hq
  obtain ⟨he, a1, c1, a2, c2, s1, S1, H1, F1, E1, x1, L1⟩ := hq.chg
  have HT1 : Told s1 [⟨{ data := #[97] }, { data := #[98] }, a1, c1, [1, 2]⟩] [⟨⟨{ data := #[97] }, { data := #[98] }, a2, c2, [1, 2]⟩, 0, 0⟩] [⟨1, 0, -1⟩] 1 [] := ⟨H1, F1, E1, x1, L1⟩
  rw [show CS.start.next = 0 from rfl] at he
  subst he
  have HS1 := Lib.hid S1
  have HB0 := Lib.hid b0
  clear n0 r0 v0 hq S1 H1 F1 E1 x1 L1 b0
  go_wp2_with fail
  refine (dup_ok w.heap.size s1 0 0 ⟨⟨{ data := #[97] }, { data := #[98] }, a2, c2, [1, 2]⟩, 0, 0⟩ w1 HS1.out.net (by rw [HT1.F]; rfl) (by rw [HT1.F]; rfl) (by rw [HT1.F]; simp) (by rw [HT1.E]; simp) (by rw [HT1.x]; decide) (by rw [HT1.x]; decide)).mono ?_
  rintro e w2 hq
  obtain ⟨he, a3, c3, s2, S2, H2, F2, E2, x2, L2⟩ := hq.chg
  rw [HT1.x] at he
  subst he
  have HT2 : Told s2 [⟨{ data := #[97] }, { data := #[98] }, a1, c1, [1, 2]⟩] [⟨⟨{ data := #[97] }, { data := #[98] }, a2, c2, [1, 2]⟩, 0, 0⟩, ⟨⟨{ data := #[97] }, { data := #[98] }, a3, c3, [1, 2]⟩, 1, 0⟩] [⟨1, 0, -1⟩, ⟨4, 1, 0⟩] 2 [] := ⟨by rw [H2]; first | rfl | rw [HT1.H], by rw [F2, HT1.F, HT1.x]; rfl, by rw [E2, HT1.E, HT1.x]; rfl, by rw [x2, HT1.x]; rfl, by rw [L2, HT1.L]⟩
  have HS2 := Lib.hid (HS1.out.trans S2)
  clear hq S2 H2 F2 E2 x2 L2 HS1 HT1
  go_wp2_with fail
  refine (alter_ok w.heap.size s2 1 255 1 1 ⟨⟨{ data := #[97] }, { data := #[98] }, a3, c3, [1, 2]⟩, 1, 0⟩ w2 HS2.out.net (by rw [HT2.F]; simp) (by rw [HT2.E]; simp) (by decide) (by rw [HT2.F]; rfl) (by rw [HT2.F]; rfl) (by simp)).mono ?_
  rintro e w3 ⟨rfl, ea3, ec3, S3⟩
  obtain ⟨s3, hs3⟩ : ∃ s3, s3 = (s2.fset 1 (Fl.alter ⟨⟨{ data := #[97] }, { data := #[98] }, a3, c3, [1, 2]⟩, 1, 0⟩ 1 (bits BinOp.xor IntKind.u8 2 255))).noted ⟨5, 1, -1⟩ ea3 ec3 := ⟨_, rfl⟩
  have HT3 : Told s3 [⟨{ data := #[97] }, { data := #[98] }, a1, c1, [1, 2]⟩] [⟨⟨{ data := #[97] }, { data := #[98] }, a2, c2, [1, 2]⟩, 0, 0⟩, ⟨⟨{ data := #[97] }, { data := #[98] }, a3, c3, [1, 253]⟩, 1, 0⟩] [⟨1, 0, -1⟩, ⟨4, 1, 0⟩, ⟨5, 1, -1⟩] 2 [] := by
    subst hs3
    refine ⟨HT2.H, ?_, ?_, HT2.x, HT2.L⟩
    · show s2.F.set 1 _ = _
      rw [HT2.F]; rfl
    · show s2.E ++ _ = _
      rw [HT2.E]; rfl
  have HS3 : Hid (Step w.heap.size W0 CS.start w3 s3) := Lib.hid (by rw [hs3]; exact HS2.out.trans S3)
  clear S3 hs3 HS2 HT2
  go_wp2_with fail
  refine (genuine_pos w.heap.size s3 0 0 0 ⟨⟨{ data := #[97] }, { data := #[98] }, a2, c2, [1, 2]⟩, 0, 0⟩ ⟨{ data := #[97] }, { data := #[98] }, a1, c1, [1, 2]⟩ w3 HS3.out.net (by rw [HT3.F]; rfl) (by rw [HT3.F]; rfl) (by rw [HT3.F]; simp) rfl (by rw [HT3.H]; rfl)).mono ?_
  rintro e w4 ⟨rfl, hb4⟩
  have N4 := Lib.hid (HS3.out.post hb4)
  clear HS3 hb4
  rw [same_self]
  go_wp2_with fail
  refine (genuine_pos w.heap.size s3 1 1 0 ⟨⟨{ data := #[97] }, { data := #[98] }, a3, c3, [1, 253]⟩, 1, 0⟩ ⟨{ data := #[97] }, { data := #[98] }, a1, c1, [1, 2]⟩ w4 N4.out.net (by rw [HT3.F]; rfl) (by rw [HT3.F]; rfl) (by rw [HT3.F]; simp) rfl (by rw [HT3.H]; rfl)).mono ?_
  rintro e w5 ⟨rfl, hb5⟩
  have N5 := Lib.hid (N4.out.post hb5)
  clear N4 hb5
  rw [same_known1]
  go_wp2_with fail
  refine (replay_ok w.heap.size s3 0 ⟨{ data := #[97] }, { data := #[98] }, a1, c1, [1, 2]⟩ w5 N5.out.net (by rw [HT3.H]; rfl) (by rw [HT3.F]; simp) (by rw [HT3.E]; simp) (by rw [HT3.x]; decide) (by rw [HT3.x]; decide)).mono ?_
  rintro e w6 hq
  obtain ⟨he, a4, c4, s4, S4, H4, F4, E4, x4, L4⟩ := hq.chg
  rw [HT3.x] at he
  subst he
  have HT4 : Told s4 [⟨{ data := #[97] }, { data := #[98] }, a1, c1, [1, 2]⟩] [⟨⟨{ data := #[97] }, { data := #[98] }, a2, c2, [1, 2]⟩, 0, 0⟩, ⟨⟨{ data := #[97] }, { data := #[98] }, a3, c3, [1, 253]⟩, 1, 0⟩, ⟨⟨{ data := #[97] }, { data := #[98] }, a4, c4, [1, 2]⟩, 2, 0⟩] [⟨1, 0, -1⟩, ⟨4, 1, 0⟩, ⟨5, 1, -1⟩, ⟨7, 2, 0⟩] 3 [] := ⟨by rw [H4]; first | rfl | rw [HT3.H], by rw [F4, HT3.F, HT3.x]; rfl, by rw [E4, HT3.E, HT3.x]; rfl, by rw [x4, HT3.x]; rfl, by rw [L4, HT3.L]⟩
  have HS4 := Lib.hid (N5.out.trans S4)
  clear hq S4 H4 F4 E4 x4 L4 N5 HT3
  go_wp2_with fail
  refine (deliver_any w.heap.size s4 1 1 ⟨⟨{ data := #[97] }, { data := #[98] }, a3, c3, [1, 253]⟩, 1, 0⟩ w6 HS4.out.net (by rw [HT4.L]; intro x hx; cases hx) (by rw [HT4.F]; rfl) (by rw [HT4.F]; rfl) (by rw [HT4.F]; simp) (by rw [HT4.E]; simp) (show ({ data := #[97] } : ByteArray).size ≤ maxLen by decide +kernel) (show ({ data := #[98] } : ByteArray).size ≤ maxLen by decide +kernel)).mono ?_
  rintro e w7 ⟨b, hbl, -, hb2⟩
  have hbf : b = false := by
    rcases hbl with ⟨h, _⟩ | ⟨x, hx, _⟩
    · exact h
    · rw [HT4.L] at hx; cases hx
  obtain ⟨rfl, ho7, s5, S5, H5, F5, E5, x5, L5, hfree⟩ := (hb2 hbf).chg HS4.out.net (by rw [HT4.F]; rfl)
  have HT5 : Told s5 [⟨{ data := #[97] }, { data := #[98] }, a1, c1, [1, 2]⟩] [⟨⟨{ data := #[97] }, { data := #[98] }, a2, c2, [1, 2]⟩, 0, 0⟩, ⟨⟨{ data := #[97] }, { data := #[98] }, a4, c4, [1, 2]⟩, 2, 0⟩] [⟨1, 0, -1⟩, ⟨4, 1, 0⟩, ⟨5, 1, -1⟩, ⟨7, 2, 0⟩, ⟨2, 1, -1⟩] 3 [] := ⟨by rw [H5, HT4.H], by rw [F5, HT4.F]; rfl, by rw [E5, HT4.E]; rfl, by rw [x5, HT4.x], by rw [L5, HT4.L]⟩
  have HS5 := Lib.hid (HS4.out.trans S5)
  have HO7 := Lib.hid ho7
  have HFR := Lib.hid hfree
  clear hbl hb2 hbf ho7 S5 H5 F5 E5 x5 L5 hfree HS4 HT4 b
  unfold Pk.v
  have hbx := Blk.new w7 67 #[.string { data := #[97] }, .string { data := #[98] }, .slice a3 2 c3]
  have K7 : Kept (Own w.heap.size s5) w7 (w7.alloc (.cells #[.string { data := #[97] }, .string { data := #[98] }, .slice a3 2 c3] 67)) := (Kept.refl _ _).alloc _
  have hnq : ¬ Own w.heap.size s5 w7.heap.size := fun e => by have := Own.lt HS5.out.net e; omega
  have S5' := HS5.out.post (nbelow1 w7 (.cells #[.string { data := #[97] }, .string { data := #[98] }, .slice a3 2 c3] 67))
  have HBX := Lib.hid hbx
  have HK7 := Lib.hid K7
  have HNQ := Lib.hid hnq
  have HS5' := Lib.hid S5'
  clear hbx K7 hnq S5' HS5
  go_wp2_with fail
  generalize w7.alloc (.cells #[.string { data := #[97] }, .string { data := #[98] }, .slice a3 2 c3] 67) = W7 at HBX HK7 HS5' ⊢
  refine (deliver_none w.heap.size s5 1 W7 HS5'.out.net (by rw [HT5.F]; simp) (by rw [HT5.F]; rfl)).mono ?_
  rintro e w8 ⟨rfl, hb8⟩
  have HS8 := Lib.hid (HS5'.out.post hb8)
  have HBX8 := Lib.hid (HBX.out.below hb8 HBX.out.lt)
  have HK8 := Lib.hid (HK7.out.trans (Kept.of_below hb8))
  clear hb8 HS5' HBX HK7
  go_wp2_with fail
  refine (redirect_ok w.heap.size s5 2 { data := #[99] } 1 ⟨⟨{ data := #[97] }, { data := #[98] }, a4, c4, [1, 2]⟩, 2, 0⟩ w8 HS8.out.net (by rw [HT5.F]; simp) (by rw [HT5.E]; simp) (by decide +kernel) host_C (by rw [HT5.F]; rfl) (by rw [HT5.F]; rfl)).mono ?_
  rintro e w9 ⟨rfl, ea6, ec6, S6⟩
  obtain ⟨s6, hs6⟩ : ∃ s6, s6 = (s5.fset 1 (Fl.redirect ⟨⟨{ data := #[97] }, { data := #[98] }, a4, c4, [1, 2]⟩, 2, 0⟩ { data := #[99] })).noted ⟨6, 2, -1⟩ ea6 ec6 := ⟨_, rfl⟩
  rw [← hs6] at S6
  have HT6 : Told s6 [⟨{ data := #[97] }, { data := #[98] }, a1, c1, [1, 2]⟩] [⟨⟨{ data := #[97] }, { data := #[98] }, a2, c2, [1, 2]⟩, 0, 0⟩, ⟨⟨{ data := #[97] }, { data := #[99] }, a4, c4, [1, 2]⟩, 2, 0⟩] [⟨1, 0, -1⟩, ⟨4, 1, 0⟩, ⟨5, 1, -1⟩, ⟨7, 2, 0⟩, ⟨2, 1, -1⟩, ⟨6, 2, -1⟩] 3 [] := by
    subst hs6
    refine ⟨HT5.H, ?_, ?_, HT5.x, HT5.L⟩
    · show s5.F.set 1 _ = _
      rw [HT5.F]; rfl
    · show s5.E ++ _ = _
      rw [HT5.E]; rfl
  have HS9 := Lib.hid (HS8.out.trans S6)
  have HBX9 := Lib.hid (HBX8.out.kept S6.kept HNQ.out)
  have HK9 := Lib.hid (HK8.out.trans S6.kept)
  clear S6 HS8 HT5 HBX8 HK8 hs6
  go_wp2_with fail
  refine (source_ok w.heap.size s6 2 1 ⟨⟨{ data := #[97] }, { data := #[99] }, a4, c4, [1, 2]⟩, 2, 0⟩ w9 HS9.out.net (by rw [HT6.F]; rfl) (by rw [HT6.F]; rfl) (by rw [HT6.F]; simp)).mono ?_
  rintro e w10 ⟨rfl, hb10⟩
  have HS10 := Lib.hid (HS9.out.post hb10)
  have HBX10 := Lib.hid (HBX9.out.below hb10 HBX9.out.lt)
  have HK10 := Lib.hid (HK9.out.trans (Kept.of_below hb10))
  clear hb10 HS9 HBX9 HK9
  go_wp2_with fail
  refine (genuine_pos w.heap.size s6 2 1 0 ⟨⟨{ data := #[97] }, { data := #[99] }, a4, c4, [1, 2]⟩, 2, 0⟩ ⟨{ data := #[97] }, { data := #[98] }, a1, c1, [1, 2]⟩ w10 HS10.out.net (by rw [HT6.F]; rfl) (by rw [HT6.F]; rfl) (by rw [HT6.F]; simp) rfl (by rw [HT6.H]; rfl)).mono ?_
  rintro e w11 ⟨rfl, hb11⟩
  have HS11 := Lib.hid (HS10.out.post hb11)
  have hbx := HBX10.out.below hb11 HBX10.out.lt
  have hr : Rd w11 (.slice a3 2 c3) [1, 253] := OwnB.rd (own_kept HO7.out (HK10.out.trans (Kept.of_below hb11)) HFR.out)
  have y0 := hbx.cell 0
  have y1 := hbx.cell 1
  have y2 := hbx.cell 2
  have ly := hbx.lt
  simp at y0 y1 y2
  have HRD := Lib.hid hr
  rw [same_known2]
  clear hb11 HS10 HBX10 HK10 hbx hr HO7 HFR HNQ
  go_wp2_with fail
  refine (same_pk { data := #[97] } { data := #[98] } { data := #[97] } { data := #[98] } a3 (some ⟨w11.heap.size, 0, none⟩) [1, 253] [1, 253] c3 2 _ (HRD.out.alloc _) (Rd.two (Blk.new _ _ _))).mono ?_
  rintro e w12 ⟨rfl, hb12⟩
  have HS12 := Lib.hid (HS11.out.post (nbelow_box hb12))
  clear hb12 HS11 HRD y0 y1 y2 ly
  rw [same_self]
  go_wp2_with fail
  refine (block_ok w.heap.size s6 { data := #[97] } { data := #[98] } w12 HS12.out.net (by rw [HT6.L]; intro x hx; cases hx) (by decide +kernel) (by decide +kernel) host_A host_B).mono ?_
  rintro e w13 ⟨rfl, m7, L7, S7, hsh, hL7⟩
  have hL7' := hL7 HT6.L
  subst hL7'
  obtain ⟨s7, hs7⟩ : ∃ s7, s7 = { s6 with m := m7, L := [(({ data := #[97] }, { data := #[98] }), true)] } := ⟨_, rfl⟩
  rw [← hs7] at S7
  have HT7 : Told s7 [⟨{ data := #[97] }, { data := #[98] }, a1, c1, [1, 2]⟩] [⟨⟨{ data := #[97] }, { data := #[98] }, a2, c2, [1, 2]⟩, 0, 0⟩, ⟨⟨{ data := #[97] }, { data := #[99] }, a4, c4, [1, 2]⟩, 2, 0⟩] [⟨1, 0, -1⟩, ⟨4, 1, 0⟩, ⟨5, 1, -1⟩, ⟨7, 2, 0⟩, ⟨2, 1, -1⟩, ⟨6, 2, -1⟩] 3 [(({ data := #[97] }, { data := #[98] }), true)] := by
    subst hs7
    exact ⟨HT6.H, HT6.F, HT6.E, HT6.x, rfl⟩
  have HSH := Lib.hid (show Short s7.L by rw [HT7.L]; exact hsh)
  have HS13 := Lib.hid (HS12.out.trans S7)
  clear HS12 S7 hsh hL7 HT6 hs7
  go_wp2_with fail
  refine (deliver_any w.heap.size s7 0 0 ⟨⟨{ data := #[97] }, { data := #[98] }, a2, c2, [1, 2]⟩, 0, 0⟩ w13 HS13.out.net HSH.out (by rw [HT7.F]; rfl) (by rw [HT7.F]; rfl) (by rw [HT7.F]; simp) (by rw [HT7.E]; simp) (show ({ data := #[97] } : ByteArray).size ≤ maxLen by decide +kernel) (show ({ data := #[98] } : ByteArray).size ≤ maxLen by decide +kernel)).mono ?_
  rintro e w14 ⟨b, hbl, hb1, -⟩
  have hbt : b = true := by
    rcases hbl with ⟨_, h⟩ | ⟨x, hx, _, h⟩
    · exact absurd rfl (h (({ data := #[97] }, { data := #[98] }), true) (by rw [HT7.L]; simp))
    · rw [HT7.L] at hx
      have : x = (({ data := #[97] }, { data := #[98] }), true) := by simpa using hx
      rw [← h, this]
  obtain ⟨rfl, hb14⟩ := hb1 hbt
  have HS14 := Lib.hid (HS13.out.post hb14)
  clear hbl hb1 hbt hb14 HS13 HSH b
  go_wp2_with fail
  refine (events_any w.heap.size s7 _ ((HS14.out.net.alloc _).alloc _) (by rw [HT7.E]; simp)).mono ?_
  rintro e w15 ⟨Bx, a5, c5, rfl, hB, ho, hb15, hN, hNr⟩
  have hct : Blk w15 (w14.heap.size + 1) 3 #[.int .i64 0] := (Blk.new' _ _ _ _ (by simp)).below hb15 (by simp)
  have q0 := hct.cell 0
  have q1 := hct.frozen 0
  have lq := hct.lt
  simp at q0
  have HS15 := Lib.hid ((HS14.out.post (nbelow_alloc (nbelow1 _ _) _)).post hb15)
  have hfe := fun W => eql_fn84 (.func 65) #[] #[.pointer (some ⟨Bx, 0, none⟩)] W
  have HOL := Lib.hid (fun k (hk : Own w.heap.size s7 k) => Own.lt HS14.out.net hk)
  clear HS14
  go_wp2_with fail
  have hseq := ev_stops Fence.wide 5 trivial rfl (by omega) Bx (w14.heap.size + 2) a5 c5 s7.E (by rw [HT7.E]; simp) w15 hB ho (fun k hk => by have := hNr k hk; simpa using this)
  refine wpIn_wide.1 (range_skip (F := Fence.wide) (n := 6) rfl (by omega) (gf := 65) (lb := #[.pointer (some ⟨Bx, 0, none⟩)]) rfl trivial (enters_of Try.func65 (by kernel_rfl) rfl) hseq (fun h k => h.trans k) (fun W l o o' hl _ _ _ => mid_b hl) (Below.refl _ _) (fun _ => rfl)
    (fun pre W => (W.cell? ⟨w14.heap.size + 1, 0, none⟩ = some (.int .i64 pre.length) ∧ W.frozen? ⟨w14.heap.size + 1, 0, none⟩ = false) ∧ Below (w14.heap.size + 1) w15 W) (fun _ _ _ => False)
    (OwnFrom.and (Own.from (fun s A B row hs hg hr => ⟨cell_kept hs.1 hg hr, (frozen_kept hs.1 hg hr).trans hs.2⟩) _) (ownFrom_below (by omega) (by omega)))
    (fun _ _ _ _ _ hs _ _ => hs) ⟨⟨q0, q1⟩, Below.refl _ _⟩ ?body ?done ?stop)
  case body =>
    rintro l pre x W ⟨⟨hc, hf⟩, hb⟩ hlen
    gi_wp2
    refine ⟨KeepsOthers.setCell _ _ _, (Mid.refl _ _ _).setCell (by simp) _, ⟨?_, by rw [World.frozen?_setCell]; exact hf⟩, hb.setCell (by simp) _⟩
    have hl6 : s7.E.length = 6 := by rw [HT7.E]; rfl
    rw [hl6] at hlen
    rw [World.cell?_setCell_same' _ _ _ (by rw [hc]; rfl), List.length_append]
    simp
    unfold wrap64
    omega
  case done =>
    rintro D ys W hD rfl ⟨⟨hc, hf⟩, hb⟩ hK
    have hlen : (evSeq s7.E).length = 6 := by rw [evSeq, upto_length, HT7.E]; rfl
    rw [hlen] at hc
    have hKW : Kept (fun k => w14.heap.size + 1 ≤ k) w15 W := ⟨hb.os, hb.tape, hb.output, hb.size, fun k _ hn => hb.block k (by omega)⟩
    have hnW := HS15.out.net.kept hKW (fun k hk e => by have := HOL.out k hk; omega)
    have hBW : Below w.heap.size w W := by
      have h1 : Below w.heap.size W0 w15 := HS15.out.kept.below HB0.out.size (fun k hk => by
        rcases hk with e | e | e | e | e | ⟨p, hp, _⟩
        · omega
        · cases e
        · cases e
        · cases e
        · cases e
        · cases hp)
      have h0 := HOL.out w.heap.size (.inl rfl)
      exact (HB0.out.trans h1).trans (hb.mono (by omega))
    go_wp2_with fail
    refine (alter_range w.heap.size s7 0 2 1 0 ⟨⟨{ data := #[97] }, { data := #[98] }, a2, c2, [1, 2]⟩, 0, 0⟩ W hnW (by rw [HT7.F]; simp) (by decide) (by rw [HT7.F]; rfl) (by rw [HT7.F]; rfl) (.inr (by simp))).mono ?_
    rintro e W2 ⟨rfl, hb2⟩
    have lc := ncell_lt hc
    have hc2 := (hb2.cell (p := ⟨w14.heap.size + 1, 0, none⟩) lc).trans hc
    have hK2 := (hb2.block D (Array.getElem?_eq_some_iff.1 hK).1).trans hK
    have HE := Lib.hid (nbelow_trans hBW hb2)
    have HK2 := Lib.hid hK2
    clear hb2 hBW hK hK2 hc hnW hKW hb hf
    go_wp2_with fail
    refine (alter_zero w.heap.size 0 0 W2).mono ?_
    rintro e W3 ⟨rfl, hb3⟩
    have lc2 := ncell_lt hc2
    have hc3 := (hb3.cell (p := ⟨w14.heap.size + 1, 0, none⟩) lc2).trans hc2
    have HK3 := Lib.hid ((hb3.block D (Array.getElem?_eq_some_iff.1 HK2.out).1).trans HK2.out)
    have HE3 := Lib.hid (nbelow_trans HE.out hb3)
    clear hb3 HE HK2 hc2
    go_wp2_with fail
    refine ⟨by simp, .inl ⟨_, _, rfl, run_takeDeferred HK3.out, ?_⟩⟩
    exact ⟨_, results_tmp rfl _ _ _, rfl, HE3.out.trans (belowK_b (w := w) (Nat.le_refl _) W3 D _ _ (by have := HOL.out w.heap.size (.inl rfl); omega) HK3.out rfl rfl)⟩
  case stop =>
    rintro D c pre W _ _ h _
    exact h.elim

end Go.Proofs.Yticnklmpplicfaa
