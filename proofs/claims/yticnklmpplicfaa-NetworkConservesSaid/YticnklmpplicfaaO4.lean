/- What the law keeps between two calls, and the calls' contracts in these words. -/
import Derived.Test.YticnklmpplicfaaO3
import Derived.Test.YticnklmpplicfaaO0
namespace Go.Proofs.Yticnklmpplicfaa
open Go.RowKit

/-- What an event counts. -/
def wt (x : Ev) : Int := if x.kind = 1 ∨ x.kind = 8 ∨ x.kind = 7 ∨ x.kind = 4 then 1 else if x.kind = 2 ∨ x.kind = 3 then -1 else 0
def bal : List Ev → Int
  | [] => 0
  | x :: l => wt x + bal l
theorem bal_snoc (l : List Ev) (x : Ev) : bal (l ++ [x]) = bal l + wt x := by
  induction l with
  | nil => simp [bal]
  | cons y l ih => rw [List.cons_append, bal, ih, bal]; omega

/-- A packet is one of the history, by its source. -/
def True_ (H : List Pk) (f : Fl) : Prop := ∃ (n : Nat) (q : Pk), f.src = (n : Int) ∧ H[n]? = some q ∧ f.p.fr = q.fr ∧ f.p.to = q.to ∧ f.p.bs = q.bs

structure LInv (hon : Bool) (k : Nat) (s : CS) : Prop where
  short : Short s.L
  bal : bal s.E = s.F.length
  F : s.F.length ≤ k
  H : s.H.length ≤ k
  E : s.E.length ≤ k
  next0 : 0 ≤ s.next
  next : s.next ≤ k
  ids : s.F.Pairwise (fun a b => a.id ≠ b.id)
  lt : ∀ f ∈ s.F, f.id < s.next
  src : ∀ f ∈ s.F, f.src < s.H.length
  namesH : ∀ p ∈ s.H, p.fr.size ≤ 100 ∧ p.to.size ≤ 100
  namesF : ∀ f ∈ s.F, f.p.fr.size ≤ 100 ∧ f.p.to.size ≤ 100
  hon : hon = true → ∀ f ∈ s.F, True_ s.H f

theorem LInv.stay {hon hon' : Bool} {k : Nat} {s : CS} (I : LInv hon k s) (hh : hon' = true → hon = true) : LInv hon' (k + 1) s :=
  ⟨I.short, I.bal, Nat.le_succ_of_le I.F, Nat.le_succ_of_le I.H, Nat.le_succ_of_le I.E, I.next0, by have := I.next; omega, I.ids, I.lt, I.src, I.namesH, I.namesF, fun h => I.hon (hh h)⟩

theorem True_.more {H P : List Pk} {f : Fl} (h : True_ H f) : True_ (H ++ P) f := by
  obtain ⟨n, q, h1, h2, h3⟩ := h
  exact ⟨n, q, h1, by rw [List.getElem?_append_left (List.getElem?_eq_some_iff.1 h2).1]; exact h2, h3⟩

theorem LInv.put {hon hon' : Bool} {k : Nat} {s s' : CS} {f : Fl} {P : List Pk} {x : Ev} (I : LInv hon k s) (hh : hon' = true → hon = true) (hH : s'.H = s.H ++ P) (hP : P.length ≤ 1)
    (hPn : ∀ p ∈ P, p.fr.size ≤ 100 ∧ p.to.size ≤ 100) (hF : s'.F = s.F ++ [f]) (hE : s'.E = s.E ++ [x]) (hx : s'.next = s.next + 1) (hL : s'.L = s.L) (hid : f.id = s.next) (hw : wt x = 1)
    (hn : f.p.fr.size ≤ 100 ∧ f.p.to.size ≤ 100) (hs : f.src < s'.H.length) (hg : hon' = true → True_ s'.H f) : LInv hon' (k + 1) s' where
  short := by rw [hL]; exact I.short
  bal := by rw [hE, hF, bal_snoc, I.bal, hw]; simp
  F := by rw [hF]; have := I.F; simp; omega
  H := by rw [hH]; have := I.H; simp; omega
  E := by rw [hE]; have := I.E; simp; omega
  next0 := by rw [hx]; have := I.next0; omega
  next := by rw [hx]; have := I.next; omega
  ids := by
    rw [hF, List.pairwise_append]
    refine ⟨I.ids, by simp, fun a ha b hb => ?_⟩
    simp at hb
    subst hb
    have := I.lt a ha
    omega
  lt := by
    intro y hy
    rw [hF] at hy
    rw [hx]
    rcases List.mem_append.1 hy with hy | hy
    · have := I.lt y hy; omega
    · simp at hy; subst hy; omega
  src := by
    intro y hy
    rw [hF] at hy
    rcases List.mem_append.1 hy with hy | hy
    · have := I.src y hy
      rw [hH]; simp; omega
    · simp at hy; subst hy; exact hs
  namesH := by
    intro p hp
    rw [hH] at hp
    rcases List.mem_append.1 hp with hp | hp
    · exact I.namesH p hp
    · exact hPn p hp
  namesF := by
    intro y hy
    rw [hF] at hy
    rcases List.mem_append.1 hy with hy | hy
    · exact I.namesF y hy
    · simp at hy; subst hy; exact hn
  hon := by
    intro h y hy
    rw [hF] at hy
    rcases List.mem_append.1 hy with hy | hy
    · rw [hH]; exact (I.hon (hh h) y hy).more
    · simp at hy; subst hy; exact hg h

theorem LInv.gone {hon hon' : Bool} {k j : Nat} {s s' : CS} {x : Ev} (I : LInv hon k s) (hh : hon' = true → hon = true) (hj : j < s.F.length) (hH : s'.H = s.H) (hF : s'.F = s.F.eraseIdx j) (hE : s'.E = s.E ++ [x])
    (hx : s'.next = s.next) (hL : s'.L = s.L) (hw : wt x = -1) : LInv hon' (k + 1) s' where
  short := by rw [hL]; exact I.short
  bal := by
    rw [hE, hF, bal_snoc, I.bal, hw, List.length_eraseIdx_of_lt hj]
    omega
  F := by rw [hF, List.length_eraseIdx_of_lt hj]; have := I.F; omega
  H := by rw [hH]; have := I.H; omega
  E := by rw [hE]; have := I.E; simp; omega
  next0 := by rw [hx]; exact I.next0
  next := by rw [hx]; have := I.next; omega
  ids := by rw [hF]; exact I.ids.sublist (List.eraseIdx_sublist _ _)
  lt := fun y hy => by rw [hF] at hy; rw [hx]; exact I.lt y (List.mem_of_mem_eraseIdx hy)
  src := fun y hy => by rw [hF] at hy; rw [hH]; exact I.src y (List.mem_of_mem_eraseIdx hy)
  namesH := by rw [hH]; exact I.namesH
  namesF := fun y hy => by rw [hF] at hy; exact I.namesF y (List.mem_of_mem_eraseIdx hy)
  hon := fun h y hy => by rw [hF] at hy; rw [hH]; exact I.hon (hh h) y (List.mem_of_mem_eraseIdx hy)

theorem LInv.turned {hon hon' : Bool} {k j : Nat} {s s' : CS} {f f' : Fl} {x : Ev} (I : LInv hon k s) (hh : hon' = false) (hf : s.F[j]? = some f) (hid : f'.id = f.id) (hsrc : f'.src = f.src) (hn : f'.p.fr.size ≤ 100 ∧ f'.p.to.size ≤ 100)
    (hH : s'.H = s.H) (hF : s'.F = s.F.set j f') (hE : s'.E = s.E ++ [x]) (hx : s'.next = s.next) (hL : s'.L = s.L) (hw : wt x = 0) : LInv hon' (k + 1) s' := by
  have hfm := List.mem_of_getElem? hf
  obtain ⟨A, B, hA, rfl, hset⟩ := split_at hf
  rw [hset f'] at hF
  have hm : ∀ y ∈ s'.F, y = f' ∨ y ∈ s.F := by
    intro y hy
    rw [hF] at hy
    rw [hA]
    rcases List.mem_append.1 hy with h | h
    · exact .inr (List.mem_append_left _ h)
    · rcases List.mem_cons.1 h with h | h
      · exact .inl h
      · exact .inr (List.mem_append_right _ (List.mem_cons_of_mem _ h))
  have hlen : s'.F.length = s.F.length := by rw [hF, hA]; simp
  refine ⟨?_, ?_, ?_, ?_, ?_, ?_, ?_, ?_, ?_, ?_, ?_, ?_, ?_⟩
  · rw [hL]; exact I.short
  · rw [hE, bal_snoc, I.bal, hw, hlen]; omega
  · rw [hlen]; have := I.F; omega
  · rw [hH]; have := I.H; omega
  · rw [hE]; have := I.E; simp; omega
  · rw [hx]; exact I.next0
  · rw [hx]; have := I.next; omega
  · have hi := I.ids
    rw [hA, List.pairwise_append, List.pairwise_cons] at hi
    rw [hF, List.pairwise_append, List.pairwise_cons]
    refine ⟨hi.1, ⟨fun b hb => by rw [hid]; exact hi.2.1.1 b hb, hi.2.1.2⟩, fun a ha b hb => ?_⟩
    rcases List.mem_cons.1 hb with h | h
    · subst h; rw [hid]; exact hi.2.2 a ha f (List.mem_cons_self ..)
    · exact hi.2.2 a ha b (List.mem_cons_of_mem _ h)
  · intro y hy
    rw [hx]
    rcases hm y hy with h | h
    · subst h; rw [hid]; exact I.lt f hfm
    · exact I.lt y h
  · intro y hy
    rw [hH]
    rcases hm y hy with h | h
    · subst h; rw [hsrc]; exact I.src f hfm
    · exact I.src y h
  · rw [hH]; exact I.namesH
  · intro y hy
    rcases hm y hy with h | h
    · subst h; exact hn
    · exact I.namesF y h
  · intro h
    rw [hh] at h
    cases h

theorem LInv.fenced {hon hon' : Bool} {k : Nat} {s s' : CS} (I : LInv hon k s) (hh : hon' = true → hon = true) (hS : Short s'.L) (hH : s'.H = s.H) (hF : s'.F = s.F) (hE : s'.E = s.E) (hx : s'.next = s.next) : LInv hon' (k + 1) s' := by
  have J := I.stay hh
  exact ⟨hS, by rw [hE, hF]; exact J.bal, by rw [hF]; exact J.F, by rw [hH]; exact J.H, by rw [hE]; exact J.E, by rw [hx]; exact J.next0, by rw [hx]; exact J.next, by rw [hF]; exact J.ids, by rw [hF, hx]; exact J.lt, by rw [hF, hH]; exact J.src,
    by rw [hH]; exact J.namesH, by rw [hF]; exact J.namesF, by rw [hF, hH]; exact J.hon⟩

/-- What a call does. -/
def Did (g : Nat) (W : World) (s : CS) (hon : Bool) (k : Nat) (e : Ending) (w' : World) : Prop := ∃ v, e = .returned v ∧ ∃ s', Step g W s w' s' ∧ LInv hon k s'

section
variable {g k : Nat} {s : CS} {w : World} {hon hon' : Bool}
theorem did_none {v : Value} {e : Ending} {w' : World} (h : Net w g s) (I : LInv hon k s) (hh : hon' = true → hon = true) (he : e = .returned v) (hb : Below w.heap.size w w') : Did g w s hon' (k + 1) e w' :=
  ⟨v, he, s, .refl h hb, I.stay hh⟩

theorem act_send (f t : ByteArray) (v : Value) (bs : List Int) (I : LInv hon k s) (hk : k ≤ 40) (h : Net w g s) (hh : hon' = true → hon = true) (hr : Rd w v bs) (hvo : 0 < bs.length → ∀ k, v.ownBlock = some k → ¬ Own g s k) (hf : f.size ≤ 100) (ht : t.size ≤ 100) (hl : bs.length ≤ 100) :
    Calls Try.prog 25 #[.pointer (some ⟨g, 0, none⟩), .agg #[.string f, .string t, v]] w (Did g w s hon' (k + 1)) := by
  have i1 := I.F
  have i2 := I.H
  have i3 := I.E
  have i4 := I.next0
  have i5 := I.next
  rcases hv : validB f t bs.length with _ | _
  · exact (send_invalid g f t v bs w hr hv (by omega) (by omega) (by omega)).mono fun e w' hq => did_none h I hh hq.1 hq.2
  · refine (send_ok0 g s f t v bs w h hr hvo hv (by omega) (by omega) (by omega) (by omega) (by omega) (by omega) i4 (by omega)).mono fun e w' hq => ?_
    obtain ⟨he, a1, c1, a2, c2, s1, S1, H1, F1, E1, x1, L1⟩ := hq.chg
    refine ⟨_, he, s1, S1, I.put hh H1 (by simp) (fun p hp => ?_) F1 E1 x1 L1 rfl rfl ⟨hf, ht⟩ (by rw [H1]; simp; omega) (fun _ => ⟨s.H.length, ⟨f, t, a1, c1, bs⟩, rfl, (by rw [H1]; exact List.getElem?_concat_length), rfl, rfl, rfl⟩)⟩
    simp at hp
    subst hp
    exact ⟨hf, ht⟩

theorem act_inject (f t : ByteArray) (v : Value) (bs : List Int) (I : LInv hon k s) (hk : k ≤ 40) (h : Net w g s) (hh : hon' = false) (hr : Rd w v bs) (hf : f.size ≤ 100) (ht : t.size ≤ 100) (hl : bs.length ≤ 100) :
    Calls Try.prog 28 #[.pointer (some ⟨g, 0, none⟩), .agg #[.string f, .string t, v]] w (Did g w s hon' (k + 1)) := by
  have i1 := I.F
  have i2 := I.H
  have i3 := I.E
  have i4 := I.next0
  have i5 := I.next
  have hh' : hon' = true → hon = true := fun e => by rw [hh] at e; cases e
  rcases hv : validB f t bs.length with _ | _
  · exact (inject_invalid g f t v bs w hr hv (by omega) (by omega) (by omega)).mono fun e w' hq => did_none h I hh' hq.1 hq.2
  · refine (inject_ok g s f t v bs w h hr hv (by omega) (by omega) (by omega) (by omega) (by omega) i4 (by omega)).mono fun e w' hq => ?_
    obtain ⟨he, a, c, s1, S1, H1, F1, E1, x1, L1⟩ := hq.chg
    exact ⟨_, he, s1, S1, I.put (P := []) hh' (by rw [H1]; simp) (by simp) (fun p hp => by cases hp) F1 E1 x1 L1 rfl rfl ⟨hf, ht⟩ (show (-1 : Int) < _ by omega) (fun e => by rw [hh] at e; cases e)⟩

theorem act_replay (i : Int) (I : LInv hon k s) (hk : k ≤ 40) (h : Net w g s) (hh : hon' = true → hon = true) :
    Calls Try.prog 29 #[.pointer (some ⟨g, 0, none⟩), .int .i64 i] w (Did g w s hon' (k + 1)) := by
  have i1 := I.F
  have i2 := I.H
  have i3 := I.E
  have i4 := I.next0
  have i5 := I.next
  by_cases hi : i < 0 ∨ (s.H.length : Int) ≤ i
  · exact (replay_none g s i w h hi).mono fun e w' hq => did_none h I hh hq.1 hq.2
  · obtain ⟨n, rfl⟩ : ∃ n : Nat, i = n := ⟨i.toNat, by omega⟩
    have hn : n < s.H.length := by omega
    obtain ⟨p, hp⟩ : ∃ p, s.H[n]? = some p := ⟨_, List.getElem?_eq_getElem hn⟩
    refine (replay_ok g s n p w h hp (by omega) (by omega) i4 (by omega)).mono fun e w' hq => ?_
    obtain ⟨he, a, c, s1, S1, H1, F1, E1, x1, L1⟩ := hq.chg
    exact ⟨_, he, s1, S1, I.put (P := []) hh (by rw [H1]; simp) (by simp) (fun p hp => by cases hp) F1 E1 x1 L1 rfl rfl (I.namesH p (List.mem_of_getElem? hp)) (by rw [H1]; exact Int.ofNat_lt.2 hn) (fun _ => ⟨n, p, rfl, by rw [H1]; exact hp, rfl, rfl, rfl⟩)⟩

theorem act_dup (id : Int) (I : LInv hon k s) (hk : k ≤ 40) (h : Net w g s) (hh : hon' = true → hon = true) :
    Calls Try.prog 30 #[.pointer (some ⟨g, 0, none⟩), .int .i64 id] w (Did g w s hon' (k + 1)) := by
  have i1 := I.F
  have i2 := I.H
  have i3 := I.E
  have i4 := I.next0
  have i5 := I.next
  rcases hi : fi s.F id with _ | j
  · exact (dup_none g s id w h (by omega) hi).mono fun e w' hq => did_none h I hh hq.1 hq.2
  · obtain ⟨f, hf, hid, hj⟩ := fi_at hi
    have hm := List.mem_of_getElem? hf
    refine (dup_ok g s id j f w h hi hf (by omega) (by omega) i4 (by omega)).mono fun e w' hq => ?_
    obtain ⟨he, a, c, s1, S1, H1, F1, E1, x1, L1⟩ := hq.chg
    refine ⟨_, he, s1, S1, I.put (P := []) hh (by rw [H1]; simp) (by simp) (fun p hp => by cases hp) F1 E1 x1 L1 rfl rfl (I.namesF f hm) (by rw [H1]; exact I.src f hm) (fun e => ?_)⟩
    obtain ⟨n, q, h1, h2, h3⟩ := I.hon (hh e) f hm
    exact ⟨n, q, h1, by rw [H1]; exact h2, h3⟩

theorem act_drop (id : Int) (I : LInv hon k s) (hk : k ≤ 40) (h : Net w g s) (hh : hon' = true → hon = true) :
    Calls Try.prog 33 #[.pointer (some ⟨g, 0, none⟩), .int .i64 id] w (Did g w s hon' (k + 1)) := by
  have i1 := I.F
  have i3 := I.E
  rcases hi : fi s.F id with _ | j
  · exact (drop_none g s id w h (by omega) hi).mono fun e w' hq => did_none h I hh hq.1 hq.2
  · obtain ⟨f, hf, hid, hj⟩ := fi_at hi
    refine (drop_ok g s id j f w h hi hf (by omega) (by omega)).mono fun e w' hq => ?_
    obtain ⟨he, ea, ec, S1⟩ := hq
    exact ⟨_, he, _, S1, I.gone hh hj rfl rfl rfl rfl rfl rfl⟩

theorem act_alter (id off m : Int) (I : LInv hon k s) (hk : k ≤ 40) (h : Net w g s) (hh : hon' = false) :
    Calls Try.prog 34 #[.pointer (some ⟨g, 0, none⟩), .int .i64 id, .int .i64 off, .int .u8 m] w (Did g w s hon' (k + 1)) := by
  have i1 := I.F
  have i3 := I.E
  have hh' : hon' = true → hon = true := fun e => by rw [hh] at e; cases e
  by_cases hm : m = 0
  · subst hm
    exact (alter_zero g id off w).mono fun e w' hq => did_none h I hh' hq.1 hq.2
  · rcases hi : fi s.F id with _ | j
    · exact (alter_none g s id off m w h (by omega) hm hi).mono fun e w' hq => did_none h I hh' hq.1 hq.2
    · obtain ⟨f, hf, hid, hj⟩ := fi_at hi
      by_cases ho : off < 0 ∨ (f.p.bs.length : Int) ≤ off
      · exact (alter_range g s id off m j f w h (by omega) hm hi hf ho).mono fun e w' hq => did_none h I hh' hq.1 hq.2
      · obtain ⟨n, rfl⟩ : ∃ n : Nat, off = n := ⟨off.toNat, by omega⟩
        refine (alter_ok g s id m j n f w h (by omega) (by omega) hm hi hf (by omega)).mono fun e w' hq => ?_
        obtain ⟨he, ea, ec, S1⟩ := hq
        exact ⟨_, he, _, S1, I.turned (f' := f.alter n (bits BinOp.xor IntKind.u8 f.p.bs[n] m)) hh hf rfl rfl (I.namesF f (List.mem_of_getElem? hf)) rfl rfl rfl rfl rfl rfl⟩

theorem act_redirect (id : Int) (t : ByteArray) (I : LInv hon k s) (hk : k ≤ 40) (h : Net w g s) (hh : hon' = false) (ht : t.size ≤ 100) :
    Calls Try.prog 35 #[.pointer (some ⟨g, 0, none⟩), .int .i64 id, .string t] w (Did g w s hon' (k + 1)) := by
  have i1 := I.F
  have i3 := I.E
  have hh' : hon' = true → hon = true := fun e => by rw [hh] at e; cases e
  rcases hv : hostB t with _ | _
  · exact (redirect_arg g id t w (by omega) hv).mono fun e w' hq => did_none h I hh' hq.1 hq.2
  · rcases hi : fi s.F id with _ | j
    · exact (redirect_none g s id t w h (by omega) (by omega) hv hi).mono fun e w' hq => did_none h I hh' hq.1 hq.2
    · obtain ⟨f, hf, hid, hj⟩ := fi_at hi
      refine (redirect_ok g s id t j f w h (by omega) (by omega) (by omega) hv hi hf).mono fun e w' hq => ?_
      obtain ⟨he, ea, ec, S1⟩ := hq
      exact ⟨_, he, _, S1, I.turned (f' := f.redirect t) hh hf rfl rfl ⟨(I.namesF f (List.mem_of_getElem? hf)).1, ht⟩ rfl rfl rfl rfl rfl rfl⟩

theorem act_block (f t : ByteArray) (I : LInv hon k s) (h : Net w g s) (hh : hon' = true → hon = true) (hf : f.size ≤ 100) (ht : t.size ≤ 100) :
    Calls Try.prog 36 #[.pointer (some ⟨g, 0, none⟩), .string f, .string t] w (Did g w s hon' (k + 1)) := by
  rcases hv : hostB f && hostB t with _ | _
  · exact (block_arg g f t w (by omega) (by omega) hv).mono fun e w' hq => did_none h I hh hq.1 hq.2
  · have hv' := Bool.and_eq_true_iff.1 hv
    refine (block_ok g s f t w h I.short (by omega) (by omega) hv'.1 hv'.2).mono fun e w' hq => ?_
    obtain ⟨he, m, L, S1, hS, -⟩ := hq
    exact ⟨_, he, _, S1, I.fenced hh hS rfl rfl rfl rfl⟩

/-- Genuine, where the identifier flies. -/
theorem act_genuine (id : Int) (j : Nat) (f : Fl) (I : LInv hon k s) (hk : k ≤ 40) (h : Net w g s) (hi : fi s.F id = some j) (hf : s.F[j]? = some f) :
    Calls Try.prog 31 #[.pointer (some ⟨g, 0, none⟩), .int .i64 id] w fun e w' => ∃ b, Gen w b 0 e w' ∧ (b = true → ∃ q ∈ s.H, sameB f.p.fr f.p.to f.p.bs q.fr q.to q.bs = true) ∧ (hon = true → b = true) := by
  have i1 := I.F
  have hm := List.mem_of_getElem? hf
  by_cases hs : f.src < 0
  · refine (genuine_neg g s id j f w h hi hf (by omega) hs).mono fun e w' hq => ⟨false, hq, (fun e => by cases e), fun e => ?_⟩
    obtain ⟨n, q, h1, -⟩ := I.hon e f hm
    omega
  · obtain ⟨n, hn⟩ : ∃ n : Nat, f.src = n := ⟨f.src.toNat, by omega⟩
    have hlt : n < s.H.length := by have := I.src f hm; omega
    obtain ⟨p, hp⟩ : ∃ p, s.H[n]? = some p := ⟨_, List.getElem?_eq_getElem hlt⟩
    refine (genuine_pos g s id j n f p w h hi hf (by omega) hn hp).mono fun e w' hq => ⟨_, hq, fun e => ⟨p, List.mem_of_getElem? hp, e⟩, fun e => ?_⟩
    obtain ⟨m, q, h1, h2, h3, h4, h5⟩ := I.hon e f hm
    have : m = n := by omega
    subst this
    rw [hp] at h2
    injection h2 with h2
    subst h2
    rw [h3, h4, h5]
    exact same_self _ _ _
end

end Go.Proofs.Yticnklmpplicfaa
