/- The law NetworkConserves, walked. -/
import Derived.Test.YticnklmpplicfaaOA
import Derived.Deep.RegionWith
import Derived.Deep.CutRange
import Derived.Deep.LoopGhost
namespace Go.Proofs.Yticnklmpplicfaa
open Go.RowKit Go.Shelf

attribute [local go_sem] Oper.semAt_some

set_option maxHeartbeats 25600000 in
set_option maxRecDepth 100000 in
theorem conserves_in (a : Option Addr) (n cap : Nat) (A : Nat → ActV) (w : World) (h : Actz w a n cap A) :
    Calls Try.prog 9 #[.slice a n cap] w fun e w' => e = .returned (.bool true) ∧ Below w.heap.size w w' := by
  refine (callsIn_wide (n := 8)).1 (callsIn_of_wp_marks Try.func9 rfl trivial (wpIn_wide.2 ?_) rfl)
  simp only [Try.ntmps9, List.size_toArray, List.length_cons, List.length_nil, Nat.reduceAdd, Nat.reduceSub, Array.replicate_succ, Array.replicate_zero, List.push_toArray, List.append_toArray, List.nil_append, List.cons_append]
  have HA := Lib.hid h
  have hl := h.len
  have hkn := Lib.hid known48
  clear h
  go_wp2_with fail
  refine (few_all a n cap A _ (HA.out.below (nbelow1 _ _))).mono ?_
  rintro e w1 ⟨(rfl | ⟨rfl, h40, hsm⟩), rfl⟩
  · go_wp2_with fail
    refine (hkn.out _).mono ?_
    rintro e w2 ⟨rfl, hb⟩
    have hr : Blk w2 w.heap.size 4 #[.bool false] := (Blk.new _ _ _).below hb (by simp)
    have e0 := hr.cell 0
    have e1 := hr.frozen 0
    have e2 := hr.lt
    have hbw := nbelow_box hb
    simp at e0
    have c0 := (hr.set_ 0 (.bool true)).cell 0
    clear hb
    go_wp2_with fail
    refine ⟨.bool true, ?_, rfl, hbw.setCell (by simp) _⟩
    simp [results, Try.results9, go_sem, c0]
  · have hnw : IntKind.i64.wrap (n : Int) = (n : Int) := by rw [IntKind.wrap_i64]; omega
    have HS := Lib.hid hsm
    clear hsm
    go_wp2_with fail
    go_loopg [5, 6, 7, 8, 9, 10] n (fun gg s5 _ _ _ _ _ wr => ∃ (k : Nat) (hon : Bool) (s : CS), k ≤ n ∧ n - k ≤ gg ∧ s5 = .int .i64 k ∧ Aside (LI w hon k s wr))
    case atStart => exact ⟨0, true, CS.start, Nat.zero_le _, by omega, rfl, li_start w⟩
    case round =>
      obtain ⟨k, hon, s, hk, hgg, rfl, I⟩ := hrel
      by_cases hlt : k < n
      · have hltz : (k : Int) < (n : Int) := by omega
        obtain ⟨b, off, ha, hA⟩ := HA.out.at_ (by omega)
        have hAr := (hA.below I.out.below) k hlt
        have y0 := hAr 0 (.int .i64 (A k).what) rfl
        have y1 := hAr 1 (.int .i64 (A k).id) rfl
        have y2 := hAr 2 (.int .i64 (A k).off) rfl
        have y3 := hAr 3 (.int .u8 (A k).mask) rfl
        have y4 := hAr 4 (.string (A k).fr) rfl
        have y5 := hAr 5 (.string (A k).to) rfl
        have y6 := hAr 6 (.slice (A k).a (A k).len (A k).cap) rfl
        have hcap := HA.out.cap
        obtain ⟨bs, hbl, hrd⟩ := HA.out.rd k hlt
        have hxs := HS.out k hlt
        generalize A k = x at y0 y1 y2 y3 y4 y5 y6 hbl hrd hxs
        simp only [Nat.add_zero] at y0
        have hsm : x.fr.size ≤ 100 ∧ x.to.size ≤ 100 ∧ x.len ≤ 100 := by simpa [ActV.small] using hxs
        have h0 := I.out.ch.cell 0
        have h1 := I.out.ch.frozen 0
        have h2 := I.out.ch.lt
        simp at h0
        have HR := Lib.hid hrd
        rw [ha]
        clear hAr hA hxs hrd
        go_upto_region 9 with fail
        go_cut [] from 35 to 50 (fun wx => wx = (wr.setCell ⟨w.heap.size + 1 + 1 + 1, 0, none⟩ (.bool (nhB hon x.what))).alloc (.cells #[.int .i64 x.what, .int .i64 x.id, .int .i64 x.off, .int .u8 x.mask, .string x.fr, .string x.to, .slice x.a x.len x.cap] 73))

        case first =>
          rcases hon with _ | _
          · go_wp2_with fail
            go_meet
            case rel => rfl
          · by_cases q2 : x.what = 2
            · have d2 : (x.what != 2) = false := by simp [q2]
              have e2 : (x.what == 2) = true := by simp [q2]
              have hn : nhB true x.what = false := by simp [nhB, q2]
              go_wp2_with fail
              go_meet
              case rel => rw [hn, q2]
            · have d2 : (x.what != 2) = true := by simp [q2]
              have e2 : (x.what == 2) = false := by simp [q2]
              by_cases q8 : x.what = 8
              · have d8 : (x.what != 8) = false := by simp [q8]
                have e8 : (x.what == 8) = true := by simp [q8]
                have hn : nhB true x.what = false := by simp [nhB, q8]
                go_wp2_with fail
                go_meet
                case rel => rw [hn, q8]
              · have d8 : (x.what != 8) = true := by simp [q8]
                have e8 : (x.what == 8) = false := by simp [q8]
                by_cases q9 : x.what = 9
                · have d9 : (x.what != 9) = false := by simp [q9]
                  have e9 : (x.what == 9) = true := by simp [q9]
                  have hn : nhB true x.what = false := by simp [nhB, q9]
                  go_wp2_with fail
                  go_meet
                  case rel => rw [hn, q9]
                · have d9 : (x.what != 9) = true := by simp [q9]
                  have e9 : (x.what == 9) = false := by simp [q9]
                  have hn : nhB true x.what = true := by simp [nhB, q2, q8, q9]
                  go_wp2_with fail
                  go_meet
                  case rel => rw [hn]
        case rest =>
          have J : LX w (nhB hon x.what) s wr.heap.size x wc := by rw [hcut]; exact lx_of I.out
          have hle : nhB hon x.what = true → hon = true := nh_le
          have hno : (x.what = 2 ∨ x.what = 8 ∨ x.what = 9) → nhB hon x.what = false := by
            rintro (e | e | e) <;> simp [nhB, e]
          have hk40 : k ≤ 40 := by omega
          have IL := I.out.inv
          have iF := IL.F
          have hR : Rd wc (.slice x.a x.len x.cap) bs := HR.out.below J.below
          have hvo : 0 < bs.length → ∀ q, (Value.slice x.a x.len x.cap).ownBlock = some q → ¬ Own (w.heap.size + 1) s q := fun h0 q hq ho => by
            have h1 := rd_lt HR.out h0 hq
            rcases J.own q ho with e | e
            · omega
            · omega
          obtain ⟨c3, z0, z1, z2, z3, z4, z5, z6, l3, lB⟩ := J.f
          have hbl' : bs.length ≤ 100 := by omega
          have hkw : IntKind.i64.wrap ((k : Int) + 1) = (k : Int) + 1 := by rw [IntKind.wrap_i64]; omega
          generalize nhB hon x.what = hon' at J hle hno
          generalize wr.heap.size = B at J z0 z1 z2 z3 z4 z5 z6 lB ⊢
          clear hcut y0 y1 y2 y3 y4 y5 y6 h0 h1 h2
          have HJ := Lib.hid J
          have HL := Lib.hid IL
          have HRD := Lib.hid hR
          have HV := Lib.hid hvo
          clear J IL hR hvo
          by_cases hq0 : x.what = 0
          · rw [hq0] at z0
            go_wp2_with fail
            refine (act_send x.fr x.to _ bs HL.out hk40 HJ.out.net hle HRD.out HV.out hsm.1 hsm.2.1 hbl').mono ?_
            rintro e w2 ⟨v, rfl, s2, S2, L2⟩
            have hI : Aside (LI w hon' (k + 1) s2 w2) := HJ.out.next S2 L2
            clear S2 L2
            go_wp2_with fail
            rw [← ha]
            go_roundg (n - (k + 1))
            case measure => omega
            case rel => exact ⟨k + 1, hon', _, by omega, by omega, by go_num, hI⟩
          have hb0 : (x.what == 0) = false := by simp [hq0]
          by_cases hq1 : x.what = 1
          · rw [hq1] at z0
            go_wp2_with fail
            refine (act_send x.fr x.to _ bs HL.out hk40 HJ.out.net hle HRD.out HV.out hsm.1 hsm.2.1 hbl').mono ?_
            rintro e w2 ⟨v, rfl, s2, S2, L2⟩
            have hI : Aside (LI w hon' (k + 1) s2 w2) := HJ.out.next S2 L2
            clear S2 L2
            go_wp2_with fail
            rw [← ha]
            go_roundg (n - (k + 1))
            case measure => omega
            case rel => exact ⟨k + 1, hon', _, by omega, by omega, by go_num, hI⟩
          have hb1 : (x.what == 1) = false := by simp [hq1]
          by_cases hq2 : x.what = 2
          · rw [hq2] at z0
            go_wp2_with fail
            refine (act_inject x.fr x.to _ bs HL.out hk40 HJ.out.net (hno (.inl hq2)) HRD.out hsm.1 hsm.2.1 hbl').mono ?_
            rintro e w2 ⟨v, rfl, s2, S2, L2⟩
            have hI : Aside (LI w hon' (k + 1) s2 w2) := HJ.out.next S2 L2
            clear S2 L2
            go_wp2_with fail
            rw [← ha]
            go_roundg (n - (k + 1))
            case measure => omega
            case rel => exact ⟨k + 1, hon', _, by omega, by omega, by go_num, hI⟩
          have hb2 : (x.what == 2) = false := by simp [hq2]
          by_cases hq3 : x.what = 3
          · rw [hq3] at z0
            go_wp2_with fail
            refine (act_replay x.id HL.out hk40 HJ.out.net hle).mono ?_
            rintro e w2 ⟨v, rfl, s2, S2, L2⟩
            have hI : Aside (LI w hon' (k + 1) s2 w2) := HJ.out.next S2 L2
            clear S2 L2
            go_wp2_with fail
            rw [← ha]
            go_roundg (n - (k + 1))
            case measure => omega
            case rel => exact ⟨k + 1, hon', _, by omega, by omega, by go_num, hI⟩
          have hb3 : (x.what == 3) = false := by simp [hq3]
          by_cases hq4 : x.what = 4
          · rw [hq4] at z0
            go_wp2_with fail
            refine (act_dup x.id HL.out hk40 HJ.out.net hle).mono ?_
            rintro e w2 ⟨v, rfl, s2, S2, L2⟩
            have hI : Aside (LI w hon' (k + 1) s2 w2) := HJ.out.next S2 L2
            clear S2 L2
            go_wp2_with fail
            rw [← ha]
            go_roundg (n - (k + 1))
            case measure => omega
            case rel => exact ⟨k + 1, hon', _, by omega, by omega, by go_num, hI⟩
          have hb4 : (x.what == 4) = false := by simp [hq4]
          by_cases hq5 : x.what = 5
          · rw [hq5] at z0
            rcases hi : fi s.F x.id with _ | j
            · go_wp2_with fail
              refine (genuine_none (w.heap.size + 1) s x.id wc HJ.out.net (by omega) hi).mono ?_
              rintro e w2 ⟨rfl, hb2⟩
              have J2 := HJ.out.past hb2
              obtain ⟨d3, u0, u1, -, -, -, -, -, m3, mB⟩ := J2.f
              have HJ2 := Lib.hid J2
              clear J2 hb2
              go_wp2_with fail
              refine (deliver_none _ s x.id w2 HJ2.out.net (by omega) hi).mono ?_
              rintro e w3 ⟨rfl, hb3⟩
              have HJ3 := Lib.hid (HJ2.out.past hb3)
              clear hb3
              have hI : ∀ o, Aside (LI w hon' (k + 1) s (w3.alloc o)) := fun o => (HJ3.out.past (nbelow1 _ o)).end_ (HL.out.stay hle)
              go_wp2_with fail
              rw [← ha]
              go_roundg (n - (k + 1))
              case measure => omega
              case rel => exact ⟨k + 1, hon', _, by omega, by omega, by go_num, hI _⟩
            · obtain ⟨f, hf, hid, hj⟩ := fi_at hi
              have hm := List.mem_of_getElem? hf
              have hnm := HL.out.namesF f hm
              have hfr : f.p.fr.size ≤ maxLen := Nat.le_trans hnm.1 (by decide)
              have hto : f.p.to.size ≤ maxLen := Nat.le_trans hnm.2 (by decide)
              have HM := Lib.hid (And.intro hfr hto)
              clear hfr hto hnm
              go_wp2_with fail
              refine (act_genuine x.id j f HL.out hk40 HJ.out.net hi hf).mono ?_
              rintro e w2 ⟨gb, ⟨rfl, hb2⟩, hq, -⟩
              have J2 := HJ.out.past hb2
              obtain ⟨d3, u0, u1, -, -, -, -, -, m3, mB⟩ := J2.f
              have HJ2 := Lib.hid J2
              clear J2 hb2
              go_wp2_with fail
              refine (deliver_any _ s x.id j f w2 HJ2.out.net HL.out.short hi hf (by omega) (by have := HL.out.E; omega) HM.out.1 HM.out.2).mono ?_
              rintro e w3 ⟨bl, -, hd1, hd2⟩
              rcases bl with _ | _
              · obtain ⟨rfl, ho3, s3, S3, H3, F3, E3, x3, L3, hfree⟩ := (hd2 rfl).chg HJ2.out.net hf
                have J3 := HJ2.out.step S3
                have L3' : LInv hon' (k + 1) s3 := HL.out.gone (x := ⟨2, x.id, -1⟩) hle hj H3 F3 E3 x3 L3 rfl
                obtain ⟨t3, -, -, -, -, -, -, -, n3, -⟩ := J3.f
                have iH := L3'.H
                have HJ3 := Lib.hid J3
                have HL3 := Lib.hid L3'
                have HO3 := Lib.hid ho3
                have HQ := Lib.hid (show gb = true → ∃ q ∈ s3.H, sameB f.p.fr f.p.to f.p.bs q.fr q.to q.bs = true by rw [H3]; exact hq)
                clear hd1 hd2 S3 F3 E3 x3 L3 hfree J3 L3' ho3 hq
                unfold Pk.v
                rcases gb with _ | _
                · go_wp2_with fail
                  refine (sent_any _ s3 f.p.fr f.p.to f.p.a f.p.bs f.p.cap _ (HJ3.out.net.alloc _) (by omega) (HO3.out.rd.alloc _)).mono ?_
                  rintro e w4 ⟨v, rfl, hb4, -⟩
                  have hI : Aside (LI w hon' (k + 1) s3 w4) := (HJ3.out.past (nbelow_box hb4)).end_ HL3.out
                  clear hb4
                  rcases v with _ | _
                  · go_wp2_with fail
                    rw [← ha]
                    go_roundg (n - (k + 1))
                    case measure => omega
                    case rel => exact ⟨k + 1, hon', _, by omega, by omega, by go_num, hI⟩
                  · go_wp2_with fail
                    rw [← ha]
                    go_roundg (n - (k + 1))
                    case measure => omega
                    case rel => exact ⟨k + 1, hon', _, by omega, by omega, by go_num, hI⟩
                · go_wp2_with fail
                  refine (sent_any _ s3 f.p.fr f.p.to f.p.a f.p.bs f.p.cap _ (HJ3.out.net.alloc _) (by omega) (HO3.out.rd.alloc _)).mono ?_
                  rintro e w4 ⟨v, rfl, hb4, hv⟩
                  have hI : Aside (LI w hon' (k + 1) s3 w4) := (HJ3.out.past (nbelow_box hb4)).end_ HL3.out
                  obtain rfl : v = true := hv (HQ.out (by simp))
                  clear hb4 hv
                  go_wp2_with fail
                  rw [← ha]
                  go_roundg (n - (k + 1))
                  case measure => omega
                  case rel => exact ⟨k + 1, hon', _, by omega, by omega, by go_num, hI⟩
              · obtain ⟨rfl, hb3⟩ := hd1 rfl
                have HJ3 := Lib.hid (HJ2.out.past hb3)
                clear hd1 hd2 hb3 hq
                have hI : ∀ o, Aside (LI w hon' (k + 1) s (w3.alloc o)) := fun o => (HJ3.out.past (nbelow1 _ o)).end_ (HL.out.stay hle)
                go_wp2_with fail
                rw [← ha]
                go_roundg (n - (k + 1))
                case measure => omega
                case rel => exact ⟨k + 1, hon', _, by omega, by omega, by go_num, hI _⟩
          have hb5 : (x.what == 5) = false := by simp [hq5]
          by_cases hq6 : x.what = 6
          · rw [hq6] at z0
            rcases hi : fi s.F x.id with _ | j
            · go_wp2_with fail
              refine (genuine_none (w.heap.size + 1) s x.id wc HJ.out.net (by omega) hi).mono ?_
              rintro e w2 ⟨rfl, hb2⟩
              have J2 := HJ.out.past hb2
              obtain ⟨d3, u0, u1, -, -, -, -, -, m3, mB⟩ := J2.f
              have HJ2 := Lib.hid J2
              clear J2 hb2
              go_wp2_with fail
              refine (deliver_none _ s x.id w2 HJ2.out.net (by omega) hi).mono ?_
              rintro e w3 ⟨rfl, hb3⟩
              have HJ3 := Lib.hid (HJ2.out.past hb3)
              clear hb3
              have hI : ∀ o, Aside (LI w hon' (k + 1) s (w3.alloc o)) := fun o => (HJ3.out.past (nbelow1 _ o)).end_ (HL.out.stay hle)
              go_wp2_with fail
              rw [← ha]
              go_roundg (n - (k + 1))
              case measure => omega
              case rel => exact ⟨k + 1, hon', _, by omega, by omega, by go_num, hI _⟩
            · obtain ⟨f, hf, hid, hj⟩ := fi_at hi
              have hm := List.mem_of_getElem? hf
              have hnm := HL.out.namesF f hm
              have hfr : f.p.fr.size ≤ maxLen := Nat.le_trans hnm.1 (by decide)
              have hto : f.p.to.size ≤ maxLen := Nat.le_trans hnm.2 (by decide)
              have HM := Lib.hid (And.intro hfr hto)
              clear hfr hto hnm
              go_wp2_with fail
              refine (act_genuine x.id j f HL.out hk40 HJ.out.net hi hf).mono ?_
              rintro e w2 ⟨gb, ⟨rfl, hb2⟩, hq, -⟩
              have J2 := HJ.out.past hb2
              obtain ⟨d3, u0, u1, -, -, -, -, -, m3, mB⟩ := J2.f
              have HJ2 := Lib.hid J2
              clear J2 hb2
              go_wp2_with fail
              refine (deliver_any _ s x.id j f w2 HJ2.out.net HL.out.short hi hf (by omega) (by have := HL.out.E; omega) HM.out.1 HM.out.2).mono ?_
              rintro e w3 ⟨bl, -, hd1, hd2⟩
              rcases bl with _ | _
              · obtain ⟨rfl, ho3, s3, S3, H3, F3, E3, x3, L3, hfree⟩ := (hd2 rfl).chg HJ2.out.net hf
                have J3 := HJ2.out.step S3
                have L3' : LInv hon' (k + 1) s3 := HL.out.gone (x := ⟨2, x.id, -1⟩) hle hj H3 F3 E3 x3 L3 rfl
                obtain ⟨t3, -, -, -, -, -, -, -, n3, -⟩ := J3.f
                have iH := L3'.H
                have HJ3 := Lib.hid J3
                have HL3 := Lib.hid L3'
                have HO3 := Lib.hid ho3
                have HQ := Lib.hid (show gb = true → ∃ q ∈ s3.H, sameB f.p.fr f.p.to f.p.bs q.fr q.to q.bs = true by rw [H3]; exact hq)
                clear hd1 hd2 S3 F3 E3 x3 L3 hfree J3 L3' ho3 hq
                unfold Pk.v
                rcases gb with _ | _
                · go_wp2_with fail
                  refine (sent_any _ s3 f.p.fr f.p.to f.p.a f.p.bs f.p.cap _ (HJ3.out.net.alloc _) (by omega) (HO3.out.rd.alloc _)).mono ?_
                  rintro e w4 ⟨v, rfl, hb4, -⟩
                  have hI : Aside (LI w hon' (k + 1) s3 w4) := (HJ3.out.past (nbelow_box hb4)).end_ HL3.out
                  clear hb4
                  rcases v with _ | _
                  · go_wp2_with fail
                    rw [← ha]
                    go_roundg (n - (k + 1))
                    case measure => omega
                    case rel => exact ⟨k + 1, hon', _, by omega, by omega, by go_num, hI⟩
                  · go_wp2_with fail
                    rw [← ha]
                    go_roundg (n - (k + 1))
                    case measure => omega
                    case rel => exact ⟨k + 1, hon', _, by omega, by omega, by go_num, hI⟩
                · go_wp2_with fail
                  refine (sent_any _ s3 f.p.fr f.p.to f.p.a f.p.bs f.p.cap _ (HJ3.out.net.alloc _) (by omega) (HO3.out.rd.alloc _)).mono ?_
                  rintro e w4 ⟨v, rfl, hb4, hv⟩
                  have hI : Aside (LI w hon' (k + 1) s3 w4) := (HJ3.out.past (nbelow_box hb4)).end_ HL3.out
                  obtain rfl : v = true := hv (HQ.out (by simp))
                  clear hb4 hv
                  go_wp2_with fail
                  rw [← ha]
                  go_roundg (n - (k + 1))
                  case measure => omega
                  case rel => exact ⟨k + 1, hon', _, by omega, by omega, by go_num, hI⟩
              · obtain ⟨rfl, hb3⟩ := hd1 rfl
                have HJ3 := Lib.hid (HJ2.out.past hb3)
                clear hd1 hd2 hb3 hq
                have hI : ∀ o, Aside (LI w hon' (k + 1) s (w3.alloc o)) := fun o => (HJ3.out.past (nbelow1 _ o)).end_ (HL.out.stay hle)
                go_wp2_with fail
                rw [← ha]
                go_roundg (n - (k + 1))
                case measure => omega
                case rel => exact ⟨k + 1, hon', _, by omega, by omega, by go_num, hI _⟩
          have hb6 : (x.what == 6) = false := by simp [hq6]
          by_cases hq7 : x.what = 7
          · rw [hq7] at z0
            go_wp2_with fail
            refine (act_drop x.id HL.out hk40 HJ.out.net hle).mono ?_
            rintro e w2 ⟨v, rfl, s2, S2, L2⟩
            have hI : Aside (LI w hon' (k + 1) s2 w2) := HJ.out.next S2 L2
            clear S2 L2
            go_wp2_with fail
            rw [← ha]
            go_roundg (n - (k + 1))
            case measure => omega
            case rel => exact ⟨k + 1, hon', _, by omega, by omega, by go_num, hI⟩
          have hb7 : (x.what == 7) = false := by simp [hq7]
          by_cases hq8 : x.what = 8
          · rw [hq8] at z0
            go_wp2_with fail
            refine (act_alter x.id x.off x.mask HL.out hk40 HJ.out.net (hno (.inr (.inl hq8)))).mono ?_
            rintro e w2 ⟨v, rfl, s2, S2, L2⟩
            have hI : Aside (LI w hon' (k + 1) s2 w2) := HJ.out.next S2 L2
            clear S2 L2
            go_wp2_with fail
            rw [← ha]
            go_roundg (n - (k + 1))
            case measure => omega
            case rel => exact ⟨k + 1, hon', _, by omega, by omega, by go_num, hI⟩
          have hb8 : (x.what == 8) = false := by simp [hq8]
          by_cases hq9 : x.what = 9
          · rw [hq9] at z0
            go_wp2_with fail
            refine (act_redirect x.id x.to HL.out hk40 HJ.out.net (hno (.inr (.inr hq9))) hsm.2.1).mono ?_
            rintro e w2 ⟨v, rfl, s2, S2, L2⟩
            have hI : Aside (LI w hon' (k + 1) s2 w2) := HJ.out.next S2 L2
            clear S2 L2
            go_wp2_with fail
            rw [← ha]
            go_roundg (n - (k + 1))
            case measure => omega
            case rel => exact ⟨k + 1, hon', _, by omega, by omega, by go_num, hI⟩
          have hb9 : (x.what == 9) = false := by simp [hq9]
          by_cases hq10 : x.what = 10
          · rw [hq10] at z0
            go_wp2_with fail
            refine (act_block x.fr x.to HL.out HJ.out.net hle hsm.1 hsm.2.1).mono ?_
            rintro e w2 ⟨v, rfl, s2, S2, L2⟩
            have hI : Aside (LI w hon' (k + 1) s2 w2) := HJ.out.next S2 L2
            clear S2 L2
            go_wp2_with fail
            rw [← ha]
            go_roundg (n - (k + 1))
            case measure => omega
            case rel => exact ⟨k + 1, hon', _, by omega, by omega, by go_num, hI⟩
          have hb10 : (x.what == 10) = false := by simp [hq10]
          have hI : Aside (LI w hon' (k + 1) s wc) := HJ.out.end_ (HL.out.stay hle)
          go_wp2_with fail
          rw [← ha]
          go_roundg (n - (k + 1))
          case measure => omega
          case rel => exact ⟨k + 1, hon', _, by omega, by omega, by go_num, hI⟩
      · obtain rfl : k = n := by omega
        have hltz : ¬ (k : Int) < (k : Int) := by omega
        have IL := I.out.inv
        have iF := IL.F
        have iE := IL.E
        have c3 : wr.cell? ⟨w.heap.size + 1 + 1, 0, none⟩ = some (.pointer (some ⟨w.heap.size + 1, 0, none⟩)) := I.out.cp.cell 0
        have l3 := I.out.cp.lt
        have he81 := eql_fn81
        have he84 := eql_fn84
        have hF0 : s.F.length ≤ 100000 := by omega
        have hE0 : s.E.length ≤ 1000000 := by omega
        clear IL
        go_upto_region 34 with fail
        go_cut [11, 12] from 155 to 158 (fun s11 s12 wx => ∃ (B1 : Nat) (a1 : Option Addr) (c1 : Nat) (F1 : List Fl) (B2 : Nat) (a2 : Option Addr) (c2 : Nat), s11 = .func (.func 63) #[] #[.pointer (some ⟨B1, 0, none⟩)] ∧ s12 = .func (.func 65) #[] #[.pointer (some ⟨B2, 0, none⟩)] ∧
          Aside (LI w hon k s wx) ∧ Aside (T37 s B1 a1 c1 F1 wx) ∧ Aside (T38 s B2 a2 c2 wx))
        case first =>
          refine wp_still ?_
          go_region_with (first
            | (go_at_call 37; refine (flight_any _ s _ I.out.net.drew hF0).mono ?_; rintro e w2 ⟨B1, a1, c1, F1, rfl, p1, p2, hb1, p3, p4, p5, p6⟩; have hN1 := I.out.net.drew.below hb1; have d3 := cell_past hb1 c3; have m3 := lt_past hb1 l3)
            | (go_at_call 38; refine (events_any _ s _ I.out.net.drew hE0).mono ?_; rintro e w2 ⟨B2, a2, c2, rfl, q1, q2, hb2, q3, q4⟩; have hN2 := I.out.net.drew.below hb2; have d3 := cell_past hb2 c3; have m3 := lt_past hb2 l3)
            | (go_at_call 38; refine (events_any _ s _ hN1 hE0).mono ?_; rintro e w3 ⟨B2, a2, c2, rfl, q1, q2, hb2, q3, q4⟩)
            | (go_at_call 37; refine (flight_any _ s _ hN2 hF0).mono ?_; rintro e w3 ⟨B1, a1, c1, F1, rfl, p1, p2, hb1, p3, p4, p5, p6⟩))
          all_goals
            go_wp2_with fail
            go_meet
            first
              | exact ⟨B1, a1, c1, F1, B2, a2, c2, rfl, rfl, I.out.past (nbelow_trans (drew_past hb1) hb2), T37.below ⟨p1, p2, p3, p4, p5, p6⟩ hb2, ⟨q1, q2⟩⟩
              | exact ⟨B1, a1, c1, F1, B2, a2, c2, rfl, rfl, I.out.past (nbelow_trans (drew_past hb2) hb1), ⟨p1, p2, p3, p4, p5, p6⟩, T38.below ⟨q1, q2⟩ hb1⟩
        case rest =>
          obtain ⟨B1, a1, c1, F1, B2, a2, c2, rfl, rfl, HI, H37, H38⟩ := hcut
          go_wp2_with fail
          have hseq := H38.out.seq 7 (by omega) hE0
          refine wpIn_wide.1 (range_two (n := 8) (r := 15) (by omega) (gf := 65) (lb := #[.pointer (some ⟨B2, 0, none⟩)]) rfl (enters_of Try.func65 (by kernel_rfl) rfl) (e1 := fun x : Nat × Ev => .int .i64 (x.1 : Int)) (e2 := fun x : Nat × Ev => .agg #[.int .i64 x.2.kind, .int .i64 x.2.id, .int .i64 x.2.fr]) hseq (fun h k => h.trans k)
            (fun W l o o' hl _ _ _ => mid_b (Nat.le_of_succ_le (by simpa using hl))) (nbelow1 _ _)
            (fun pre W => Below wc.heap.size wc W ∧ Blk W wc.heap.size 3 #[.int .i64 (bal (pre.map Prod.snd))])
            (OwnFrom.and (ownFrom_below (Nat.le_refl _) (by simp)) blk_fromI) ⟨nbelow1 _ _, Blk.new _ _ _⟩
            (fun _ D => .pointer (some ⟨D, 0, none⟩)) (fun x D W => Blk W D 88 #[.int .i64 x.2.kind, .int .i64 x.2.id, .int .i64 x.2.fr]) (fun _ _ => blk_from) ?assign ?body ?done)
          case assign =>
            rintro l pre x W K ⟨hb, hc⟩ _ hK
            gi_wp2
            exact hK W.heap.size _ (KeepsOthers.alloc _ _) ((Mid.refl _ _ _).alloc hb.size _) ⟨hb.alloc hb.size _, hc.alloc _⟩ (Blk.new _ _ _)
          case body =>
            rintro l pre ⟨i, ev⟩ D W ⟨hb, hc⟩ hD hlen
            have e0 := hc.cell 0
            have e1 := hc.frozen 0
            have le := hc.lt
            have y0 := hD.cell 0
            have ly := hD.lt
            have hbd := bal_le (pre.map Prod.snd)
            have hpl : (pre.map Prod.snd).length ≤ 40 := by simp; omega
            have hsn : bal ((pre ++ [(i, ev)]).map Prod.snd) = bal (pre.map Prod.snd) + wt ev := by rw [List.map_append]; exact bal_snoc _ _
            generalize bal (pre.map Prod.snd) = t at hc e0 hbd hsn
            have hw1 : IntKind.i64.wrap (t + 1) = t + 1 := by rw [IntKind.wrap_i64]; omega
            have hw2 : IntKind.i64.wrap (t - 1) = t - 1 := by rw [IntKind.wrap_i64]; omega
            simp at e0 y0
            have HC := Lib.hid hc
            have HBW := Lib.hid hb
            have HSN := Lib.hid hsn
            clear hc hb hsn hD hbd hpl
            by_cases k1 : ev.kind = 1
            · rw [k1] at y0
              have hwt : wt ev = 1 := by simp [wt, k1]
              gi_wp2
              refine ⟨KeepsOthers.setCell _ _ _, (Mid.refl 0 wc.heap.size W).setCell (p := ⟨wc.heap.size, 0, none⟩) (.inr (Nat.le_refl _)) _, HBW.out.setCell (Nat.le_refl _) _, ?_⟩
              rw [HSN.out, hwt]
              have := HC.out.set_ 0 (.int .i64 (t + 1))
              simpa using this
            have b1 : (ev.kind == 1) = false := by simp [k1]
            by_cases k8 : ev.kind = 8
            · rw [k8] at y0
              have hwt : wt ev = 1 := by simp [wt, k8]
              gi_wp2
              refine ⟨KeepsOthers.setCell _ _ _, (Mid.refl 0 wc.heap.size W).setCell (p := ⟨wc.heap.size, 0, none⟩) (.inr (Nat.le_refl _)) _, HBW.out.setCell (Nat.le_refl _) _, ?_⟩
              rw [HSN.out, hwt]
              have := HC.out.set_ 0 (.int .i64 (t + 1))
              simpa using this
            have b8 : (ev.kind == 8) = false := by simp [k8]
            by_cases k7 : ev.kind = 7
            · rw [k7] at y0
              have hwt : wt ev = 1 := by simp [wt, k7]
              gi_wp2
              refine ⟨KeepsOthers.setCell _ _ _, (Mid.refl 0 wc.heap.size W).setCell (p := ⟨wc.heap.size, 0, none⟩) (.inr (Nat.le_refl _)) _, HBW.out.setCell (Nat.le_refl _) _, ?_⟩
              rw [HSN.out, hwt]
              have := HC.out.set_ 0 (.int .i64 (t + 1))
              simpa using this
            have b7 : (ev.kind == 7) = false := by simp [k7]
            by_cases k4 : ev.kind = 4
            · rw [k4] at y0
              have hwt : wt ev = 1 := by simp [wt, k4]
              gi_wp2
              refine ⟨KeepsOthers.setCell _ _ _, (Mid.refl 0 wc.heap.size W).setCell (p := ⟨wc.heap.size, 0, none⟩) (.inr (Nat.le_refl _)) _, HBW.out.setCell (Nat.le_refl _) _, ?_⟩
              rw [HSN.out, hwt]
              have := HC.out.set_ 0 (.int .i64 (t + 1))
              simpa using this
            have b4 : (ev.kind == 4) = false := by simp [k4]
            by_cases k2 : ev.kind = 2
            · rw [k2] at y0
              have hwt : wt ev = -1 := by simp [wt, k2]
              gi_wp2
              refine ⟨KeepsOthers.setCell _ _ _, (Mid.refl 0 wc.heap.size W).setCell (p := ⟨wc.heap.size, 0, none⟩) (.inr (Nat.le_refl _)) _, HBW.out.setCell (Nat.le_refl _) _, ?_⟩
              rw [HSN.out, hwt, show t + -1 = t - 1 by omega]
              have := HC.out.set_ 0 (.int .i64 (t - 1))
              simpa using this
            have b2 : (ev.kind == 2) = false := by simp [k2]
            by_cases k3 : ev.kind = 3
            · rw [k3] at y0
              have hwt : wt ev = -1 := by simp [wt, k3]
              gi_wp2
              refine ⟨KeepsOthers.setCell _ _ _, (Mid.refl 0 wc.heap.size W).setCell (p := ⟨wc.heap.size, 0, none⟩) (.inr (Nat.le_refl _)) _, HBW.out.setCell (Nat.le_refl _) _, ?_⟩
              rw [HSN.out, hwt, show t + -1 = t - 1 by omega]
              have := HC.out.set_ 0 (.int .i64 (t - 1))
              simpa using this
            have b3 : (ev.kind == 3) = false := by simp [k3]
            have hwt : wt ev = 0 := by simp [wt, k1, k8, k7, k4, k2, k3]
            gi_wp2
            refine ⟨KeepsOthers.refl _, Mid.refl _ _ _, HBW.out, ?_⟩
            rw [HSN.out, hwt]
            simpa using HC.out
          case done =>
            rintro D xs W hD rfl ⟨hb, hc⟩ hK
            rw [evSeq_snd, HI.out.inv.bal] at hc
            go_wp2_with fail
            have hseq2 := H37.out.seq 7 (by omega) (by omega)
            have hDW := (Array.getElem?_eq_some_iff.1 hK).1
            refine wpIn_wide.1 (range_two (n := 8) (r := 16) (by omega) (gf := 63) (lb := #[.pointer (some ⟨B1, 0, none⟩)]) rfl (enters_of Try.func63 (by kernel_rfl) rfl) (e1 := fun x : Int × Pk => .int .i64 x.1) (e2 := fun x : Int × Pk => .agg #[.string x.2.fr, .string x.2.to, x.2.v]) hseq2 (fun h k => h.trans k)
              (fun W1 l o o' hl h h1 h2 => belowK_b (w := W) hb.size W1 l o o' hl h h1 h2) hb
              (fun pre W1 => (Below wc.heap.size wc W1 ∧ Blk W1 wc.heap.size 3 #[.int .i64 ((s.F.length : Int) - (pre.length : Int))]) ∧ W1.heap[D]? = some (.deferred (some [])))
              (OwnFrom.and (OwnFrom.and (ownFrom_below (Nat.le_refl _) hb.size) blk_fromI) (obj_fromI hDW)) ⟨⟨hb, by simpa using hc⟩, hK⟩
              (fun x _ => .int .i64 x.1) (fun x _ _ => ∃ f ∈ s.F, x.1 = f.id) (fun _ _ _ _ _ _ h _ _ => h) ?assign2 ?body2 ?done2)
            case assign2 =>
              rintro l pre x W1 K hi hf hK
              gi_wp2
              exact hK 0 _ (KeepsOthers.refl _) (Below.refl _ _) hi hf
            case body2 =>
              rintro l pre ⟨id, pk⟩ D' W1 ⟨⟨hb1, hc1⟩, hk1⟩ hf hlen
              have I1 := HI.out.past hb1
              obtain ⟨j, hj⟩ := fi_mem hf
              obtain ⟨f, hfj, hid, hjl⟩ := fi_at hj
              have g3 : W1.cell? ⟨w.heap.size + 1 + 1, 0, none⟩ = some (.pointer (some ⟨w.heap.size + 1, 0, none⟩)) := I1.cp.cell 0
              have n3 := I1.cp.lt
              have hgen := Lib.hid (act_genuine (w := W1) id j f I1.inv h40 I1.net hj hfj)
              have HI1 := Lib.hid I1
              have HC := Lib.hid hc1
              have HBW := Lib.hid hb1
              have HK1 := Lib.hid hk1
              have hpl : pre.length ≤ 40 := by omega
              clear I1 hc1 hb1 hk1 hj hfj hid hf
              gi_wp2
              refine ⟨trivial, (CallsIn.inRound l (callsIn_wide.2 hgen.out)).mono ?_⟩
              rintro e w2 ⟨gb, ⟨rfl, hb2⟩, -, hgh⟩
              have hh := HI1.out.ch.below hb2 HI1.out.ch.lt
              have hbc := HC.out.below hb2 HC.out.lt
              have q0 := hh.cell 0
              have q1 := hh.lt
              have q2 := hbc.cell 0
              have q3 := hbc.frozen 0
              have q4 := hbc.lt
              simp at q0 q2
              have hw : IntKind.i64.wrap ((s.F.length : Int) - (pre.length : Int) - 1) = (s.F.length : Int) - (pre.length : Int) - 1 := by rw [IntKind.wrap_i64]; omega
              have hfin : ∀ u : Int, u = (s.F.length : Int) - (pre.length : Int) - 1 → KeepsOthers W1 (w2.setCell ⟨wc.heap.size, 0, none⟩ (.int .i64 u)) ∧ Below wc.heap.size W1 (w2.setCell ⟨wc.heap.size, 0, none⟩ (.int .i64 u)) ∧
                  (Below wc.heap.size wc (w2.setCell ⟨wc.heap.size, 0, none⟩ (.int .i64 u)) ∧ Blk (w2.setCell ⟨wc.heap.size, 0, none⟩ (.int .i64 u)) wc.heap.size 3 #[.int .i64 ((s.F.length : Int) - ((pre ++ [(id, pk)]).length : Int))]) ∧
                  (w2.setCell ⟨wc.heap.size, 0, none⟩ (.int .i64 u)).heap[D]? = some (.deferred (some [])) := by
                rintro u rfl
                have hb3 := hb2.mono HBW.out.size
                refine ⟨(keeps_below hb2).trans (KeepsOthers.setCell _ _ _), hb3.setCell (Nat.le_refl _) _, ⟨(HBW.out.trans hb3).setCell (Nat.le_refl _) _, ?_⟩, ?_⟩
                · have h := hbc.set_ 0 (.int .i64 ((s.F.length : Int) - (pre.length : Int) - 1))
                  have e : (s.F.length : Int) - ((pre ++ [(id, pk)]).length : Int) = (s.F.length : Int) - (pre.length : Int) - 1 := by simp; omega
                  rw [e]
                  simpa using h
                · refine (Below.heap_setCell w2 _ _ D (by simp at hD; simp; omega)).trans ?_
                  exact (hb2.block D (Array.getElem?_eq_some_iff.1 HK1.out).1).trans HK1.out
              have HFIN := Lib.hid hfin
              clear hfin hb2 hh hbc
              rcases hon with _ | _
              · gi_wp2
                exact HFIN.out _ rfl
              · obtain rfl : gb = true := hgh rfl
                gi_wp2
                exact HFIN.out _ rfl
            case done2 =>
              rintro D2 ys W2 hD2 hlen ⟨⟨hb2, hc2⟩, hk2⟩ hK2
              have hz : (s.F.length : Int) - (ys.length : Int) = 0 := by omega
              rw [hz] at hc2
              have e0 := hc2.cell 0
              have le := hc2.lt
              simp at e0
              have HBW := Lib.hid hb2
              have HK2 := Lib.hid hk2
              have HKK := Lib.hid hK2
              clear hb2 hk2 hK2 hc2
              go_wp2_with fail
              refine (hkn.out _).mono ?_
              rintro e w4 ⟨rfl, hb4⟩
              have hbw : Below wc.heap.size wc w4 := HBW.out.trans (hb4.mono HBW.out.size)
              have hr := HI.out.cr.below hbw HI.out.cr.lt
              have r0 := hr.cell 0
              have r1 := hr.frozen 0
              have r2 := hr.lt
              simp at r0
              have hlD : D < w4.heap.size := Nat.lt_of_lt_of_le (Array.getElem?_eq_some_iff.1 HK2.out).1 hb4.size
              have hlD2 : D2 < w4.heap.size := Nat.lt_of_lt_of_le (Array.getElem?_eq_some_iff.1 HKK.out).1 hb4.size
              have hkD := (hb4.block D (Array.getElem?_eq_some_iff.1 HK2.out).1).trans HK2.out
              have hkD2 := (hb4.block D2 (Array.getElem?_eq_some_iff.1 HKK.out).1).trans HKK.out
              have hrw := HI.out.cr.lt
              have hDz : wc.heap.size ≤ D := by simp at hD; omega
              have hDD : D ≠ D2 := by omega
              have HX := Lib.hid (And.intro hkD (And.intro hkD2 (And.intro hr (nbelow_trans HI.out.below hbw))))
              clear hkD hkD2 hr hbw hb4
              go_wp2_with fail
              have hA : (w4.setCell ⟨w.heap.size, 0, none⟩ (.bool true)).heap[D2]? = some (.deferred (some [])) := (Below.heap_setCell w4 _ _ D2 (by simp; omega)).trans HX.out.2.1
              have hB : ((w4.setCell ⟨w.heap.size, 0, none⟩ (.bool true)).putObj D2 (.deferred none)).heap[D]? = some (.deferred (some [])) := (World.putObj_heap_other hDD).trans ((Below.heap_setCell w4 _ _ D (by simp; omega)).trans HX.out.1)
              have hb5 : Below wc.heap.size (w4.setCell ⟨w.heap.size, 0, none⟩ (.bool true)) (((w4.setCell ⟨w.heap.size, 0, none⟩ (.bool true)).putObj D2 (.deferred none)).putObj D (.deferred none)) :=
                (belowK_b (w := wc) (Nat.le_refl _) _ D2 _ (.deferred none) (by omega) hA rfl rfl).trans (belowK_b (w := wc) (Nat.le_refl _) _ D _ (.deferred none) hDz hB rfl rfl)
              have hres := (hb5.cell (p := ⟨w.heap.size, 0, none⟩) hrw).trans ((HX.out.2.2.1.set_ 0 (.bool true)).cell 0)
              refine ⟨by simp, .inl ⟨_, _, rfl, run_takeDeferred hA, ?_⟩⟩
              refine ⟨by simp, .inl ⟨_, _, rfl, run_takeDeferred hB, ?_⟩⟩
              refine ⟨.bool true, ?_, rfl, ?_⟩
              · simp [results, Try.results9, go_sem, hres]
              · exact (HX.out.2.2.2.setCell (p := ⟨w.heap.size, 0, none⟩) (by simp) _).trans (hb5.mono (by have := HI.out.below.size; omega))

end Go.Proofs.Yticnklmpplicfaa
