/- What the example of the chapter wants beside the contracts. -/
import Derived.Test.YticnklmpplicfaaNU
namespace Go.Proofs.Yticnklmpplicfaa
open Go.RowKit

/-- A function value is not nil. -/
def isFn (o : Option TypeDesc) : Bool := match o with
  | some (.func _ _ _) => true
  | _ => false
theorem eqlIn_fn {t : TypeId} (h : isFn (Try.prog.underlying t) = true) (d : Nat) (f : Fn) (a b : Array Value) (w : World) :
    (Op.equalIn (d + 1) t (.func f a b) .nilFunc).run Try.prog w = .ok false w := by
  cases hu : Try.prog.underlying t with
  | none => rw [hu] at h; cases h
  | some ty =>
    rw [hu] at h
    cases ty with
    | func x y z => simp [Op.equalIn, run_underlying hu]
    | _ => cases h
theorem Try.fn84 : isFn (Try.prog.underlying 84) = true := by kernel_rfl
theorem eqlIn_fn84 (d : Nat) (f : Fn) (a b : Array Value) (w : World) : (Op.equalIn (d + 1) 84 (.func f a b) .nilFunc).run Try.prog w = .ok false w := eqlIn_fn Try.fn84 d f a b w
theorem eql_fn84 (f : Fn) (a b : Array Value) (w : World) : (binOp .eql 84 (.func f a b) .nilFunc).run Try.prog w = .ok (.bool false) w := by
  simp only [binOp]
  simp [Op.equal, Op.maxDepth, eqlIn_fn84 9999 f a b w]
theorem Try.fn81 : isFn (Try.prog.underlying 81) = true := by kernel_rfl
theorem eqlIn_fn81 (d : Nat) (f : Fn) (a b : Array Value) (w : World) : (Op.equalIn (d + 1) 81 (.func f a b) .nilFunc).run Try.prog w = .ok false w := eqlIn_fn Try.fn81 d f a b w
theorem eql_fn81 (f : Fn) (a b : Array Value) (w : World) : (binOp .eql 81 (.func f a b) .nilFunc).run Try.prog w = .ok (.bool false) w := by
  simp only [binOp]
  simp [Op.equal, Op.maxDepth, eqlIn_fn81 9999 f a b w]

/-- The empty network. -/
def CS.start : CS := ⟨none, 0, none, 0, none, 0, none, 0, [], [], [], []⟩
theorem own_nil (w : World) (e : TypeId) (size : Nat) : w.ownsRow 0 e size (.slice none 0 0) 0 [] := ⟨by simp, .inl ⟨rfl, rfl⟩⟩
theorem Net.start (w : World) : Net (w.alloc (.cells #[.slice none 0 0, .slice none 0 0, .int .i64 0, .map none, .slice none 0 0] 63)) w.heap.size CS.start where
  blk := heap_alloc_new w _
  hist := own_nil _ _ _
  fly := own_nil _ _ _
  evs := own_nil _ _ _
  map := ⟨fun _ => rfl, fun k h => by cases h⟩
  own := fun p hp => by cases hp
  len := fun p hp => by cases hp
  sep := List.Pairwise.nil

/-- The state is told by its lists. -/
def Chg (g : Nat) (w : World) (s : CS) (w' : World) (H : List Pk) (F : List Fl) (E : List Ev) (next : Int) (L : List ((ByteArray × ByteArray) × Bool)) : Prop :=
  ∃ s', Step g w s w' s' ∧ s'.H = H ∧ s'.F = F ∧ s'.E = E ∧ s'.next = next ∧ s'.L = L

theorem Sent.chg {g : Nat} {w w' : World} {s : CS} {f t : ByteArray} {bs : List Int} {e : Ending} (h : Sent g w s f t bs e w') :
    e = .returned (.tuple #[.int .i64 s.next, .int .i64 0]) ∧ ∃ a1 c1 a2 c2, Chg g w s w' (s.H ++ [⟨f, t, a1, c1, bs⟩]) (s.F ++ [⟨⟨f, t, a2, c2, bs⟩, s.next, s.H.length⟩]) (s.E ++ [⟨1, s.next, -1⟩]) (s.next + 1) s.L := by
  obtain ⟨he, a1, c1, ha, hc, a2, c2, fa, fc, ea, ec, hS⟩ := h
  exact ⟨he, a1, c1, a2, c2, _, hS, rfl, rfl, rfl, rfl, rfl⟩
theorem Put.chg {g : Nat} {w w' : World} {s : CS} {f t : ByteArray} {bs : List Int} {src k fr : Int} {e : Ending} (h : Put g w s f t bs src k fr e w') :
    e = .returned (.tuple #[.int .i64 s.next, .int .i64 0]) ∧ ∃ a c, Chg g w s w' s.H (s.F ++ [⟨⟨f, t, a, c, bs⟩, s.next, src⟩]) (s.E ++ [⟨k, s.next, fr⟩]) (s.next + 1) s.L := by
  obtain ⟨he, a, c, fa, fc, ea, ec, hS⟩ := h
  exact ⟨he, a, c, _, hS, rfl, rfl, rfl, rfl, rfl⟩

/-- The bytes of a packet that has been taken are none of the network's. -/
theorem taken_free {w w' : World} {g j k : Nat} {s : CS} {f : Fl} {x : Ev} {ea : Option Addr} {ec : Nat} (h : Net w g s) (hf : s.F[j]? = some f) (hn : Net w' g ((s.noted x ea ec).taken j)) (ho : OwnB w' f.p.v f.p.bs) (hk : f.p.v.ownBlock = some k) :
    ¬ Own g ((s.noted x ea ec).taken j) k := by
  have hty : tyAt w' k = some 5 := own_ty ho hk
  obtain ⟨A, B, hF, rfl, _⟩ := split_at hf
  rintro (e | e | e | e | e | ⟨p, hp, e⟩)
  · subst e; exact ty_ne hn.blk.ty hty (by decide)
  · exact ty_ne (own_ty hn.hist e) hty (by decide)
  · exact ty_ne (own_ty hn.fly e) hty (by decide)
  · exact ty_ne (own_ty hn.evs e) hty (by decide)
  · exact ty_no hty (hn.map.ty e).1
  · have hsep := h.sep
    have hpks : s.pks = (s.H ++ A.map Fl.p) ++ f.p :: B.map Fl.p := by simp [CS.pks, hF]
    have hE : s.F.eraseIdx A.length = A ++ B := by
      rw [hF, List.eraseIdx_append_of_length_le (Nat.le_refl _)]
      simp
    have hp' : p ∈ (s.H ++ A.map Fl.p) ++ B.map Fl.p := by
      have : ((s.noted x ea ec).taken A.length).pks = s.H ++ (s.F.eraseIdx A.length).map Fl.p := rfl
      rw [this, hE] at hp
      simpa [or_assoc] using hp
    rw [hpks, List.map_append, List.map_cons, List.pairwise_append, List.pairwise_cons] at hsep
    rcases List.mem_append.1 hp' with hq | hq
    · exact hsep.2.2 _ (List.mem_map_of_mem hq) _ List.mem_cons_self k e hk
    · exact hsep.2.1.1 _ (List.mem_map_of_mem hq) k hk e

theorem Delivered.chg {g : Nat} {w w' : World} {s : CS} {id : Int} {j : Nat} {f : Fl} {e : Ending} (h : Net w g s) (hf : s.F[j]? = some f) (hd : Delivered g w s id j f e w') :
    e = .returned (.tuple #[.agg #[.string f.p.fr, .string f.p.to, f.p.v], .int .i64 0]) ∧ OwnB w' f.p.v f.p.bs ∧
      ∃ s', Step g w s w' s' ∧ s'.H = s.H ∧ s'.F = s.F.eraseIdx j ∧ s'.E = s.E ++ [⟨2, id, -1⟩] ∧ s'.next = s.next ∧ s'.L = s.L ∧ ∀ k, f.p.v.ownBlock = some k → ¬ Own g s' k := by
  obtain ⟨he, ea, ec, hS, ho⟩ := hd
  exact ⟨he, ho, _, hS, rfl, rfl, rfl, rfl, rfl, fun k hk => taken_free h hf hS.net ho hk⟩

theorem host_A : hostB { data := #[97] } = true := by decide +kernel
theorem host_B : hostB { data := #[98] } = true := by decide +kernel
theorem host_C : hostB { data := #[99] } = true := by decide +kernel
theorem valid_known : validB { data := #[97] } { data := #[98] } 2 = true := by decide +kernel
theorem same_self (f t : ByteArray) (bs : List Int) : sameB f t bs f t bs = true := by simp [sameB]
theorem same_known1 : sameB { data := #[97] } { data := #[98] } [1, 253] { data := #[97] } { data := #[98] } [1, 2] = false := by decide +kernel
theorem same_known2 : sameB { data := #[97] } { data := #[99] } [1, 2] { data := #[97] } { data := #[98] } [1, 2] = false := by decide +kernel

end Go.Proofs.Yticnklmpplicfaa
