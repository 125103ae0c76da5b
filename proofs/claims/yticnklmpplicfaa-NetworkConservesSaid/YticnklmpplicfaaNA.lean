/- Words for the memory of package network, and the contracts of its leaves: validHost, valid, bytes.Clone, clone. -/
import Derived.Test.YticnklmpplicfaaKept
import Derived.WalkSpells
import Derived.WalkLawsBesides
import Derived.Lib.Hide
import Derived.Deep.AppendLies
import Derived.Deep.RegionLaw
import Derived.Deep.RegionHeld3
import Derived.Laws.OwnMore
namespace Go.Proofs.Yticnklmpplicfaa
open Go.RowKit

theorem nret_bool {a b : Bool} (h : a = b) : Ending.returned (.bool a) = .returned (.bool b) := by rw [h]
theorem nbelow1 (w : World) (o : Obj) : Below w.heap.size w (w.alloc o) := (Below.refl _ _).alloc (Nat.le_refl _) _
theorem nbelow_alloc {W w : World} (h : Below W.heap.size W w) (o : Obj) : Below W.heap.size W (w.alloc o) := h.alloc h.size o
theorem nbelow_trans {W w w' : World} (h : Below W.heap.size W w) (h' : Below w.heap.size w w') : Below W.heap.size W w' := h.trans (h'.mono h.size)
theorem nbelow_box {w w1 : World} {o : Obj} (hb : Below (w.alloc o).heap.size (w.alloc o) w1) : Below w.heap.size w w1 := (nbelow1 w o).trans (hb.mono (nbelow1 w o).size)
theorem ncell_lt {w : World} {p : Addr} {v : Value} (h : w.cell? p = some v) : p.block < w.heap.size := by
  rcases Nat.lt_or_ge p.block w.heap.size with hlt | hge
  · exact hlt
  · simp [World.cell?, Array.getElem?_eq_none hge] at h

def Blk (w : World) (g : Nat) (t : TypeId) (cs : Array Value) : Prop := w.heap[g]? = some (.cells cs t (0, 0))

section
variable {w w' : World} {g : Nat} {t : TypeId} {cs : Array Value}
theorem Blk.lt (h : Blk w g t cs) : g < w.heap.size := by
  rcases Nat.lt_or_ge g w.heap.size with hlt | hge
  · exact hlt
  · unfold Blk at h; rw [Array.getElem?_eq_none hge] at h; cases h
theorem Blk.cell (h : Blk w g t cs) (i : Nat) : w.cell? ⟨g, i, none⟩ = cs[i]? := cell_of_row w g i cs t (0, 0) h
theorem Blk.frozen (h : Blk w g t cs) (i : Nat) : w.frozen? ⟨g, i, none⟩ = false := by
  unfold Blk at h
  simp [World.frozen?, h]
theorem Blk.new (w : World) (t : TypeId) (cs : Array Value) : Blk (w.alloc (.cells cs t)) w.heap.size t cs := heap_alloc_new w _
theorem Blk.drew (h : Blk w g t cs) : Blk w.drew g t cs := h
theorem Blk.drewN (h : Blk w g t cs) (n : Nat) : Blk (w.drewN n) g t cs := h
theorem Blk.alloc (h : Blk w g t cs) (o : Obj) : Blk (w.alloc o) g t cs := (Below.heap_alloc w o g h.lt).trans h
theorem Blk.set_ (h : Blk w g t cs) (i : Nat) (u : Value) : Blk (w.setCell ⟨g, i, none⟩ u) g t (cs.setIfInBounds i u) := by
  unfold Blk at h ⊢
  simp [World.setCell, Array.getElem?_modify, h]
theorem Blk.far (h : Blk w g t cs) {p : Addr} (hp : g ≠ p.block) (u : Value) : Blk (w.setCell p u) g t cs := (Below.heap_setCell w p u g hp).trans h
theorem Blk.below {B : Nat} (h : Blk w g t cs) (hb : Below B w w') (hg : g < B) : Blk w' g t cs := (hb.block g hg).trans h
theorem Blk.grown {row : Option Nat} (h : Blk w g t cs) (hb : w.grownBy w' row) (hg : some g ≠ row) : Blk w' g t cs := (hb.block g h.lt hg).trans h
theorem Blk.ne_ {g' : Nat} {t' : TypeId} {cs' : Array Value} (h : Blk w g t cs) (h' : Blk w g' t' cs') (hne : t ≠ t') : g ≠ g' := by
  rintro rfl
  unfold Blk at h h'
  rw [h] at h'
  injection h' with h'
  injection h' with _ ht
  exact hne ht
theorem own_blk_ne {base : Nat} {e : TypeId} {size n : Nat} {v : Value} {xs : List Value} (h : w.ownsRow base e size v n xs) (hg : Blk w g t cs) (hne : e ≠ t) : v.ownBlock ≠ some g := by
  rcases h.2 with ⟨rfl, _⟩ | ⟨g', cap, cur, rfl, _, hh, _⟩
  · simp [Value.ownBlock]
  · intro he
    have : g' = g := by simpa [Value.ownBlock] using he
    subst this
    exact Blk.ne_ (t := e) hh hg hne rfl
end
theorem Blk.kept {S : Nat → Prop} {w w' : World} {g : Nat} {t : TypeId} {cs : Array Value} (h : Blk w g t cs) (hk : Kept S w w') (hn : ¬ S g) : Blk w' g t cs := (hk.block g h.lt hn).trans h
theorem Blk.new' (w : World) (t : TypeId) (cs : Array Value) (g : Nat) (hg : w.heap.size = g) : Blk (w.alloc (.cells cs t)) g t cs := by subst hg; exact heap_alloc_new w _

/-- A slice value that reads as a list of bytes. -/
structure Rd (w : World) (v : Value) (bs : List Int) : Prop where
  form : ∃ a cap, v = .slice a bs.length cap ∧ (a = none → bs = [] ∧ cap = 0)
  cells : 0 < bs.length → ∃ b off cap, v = .slice (some ⟨b, off, none⟩) bs.length cap ∧ ∀ i, i < bs.length → w.cell? ⟨b, off + i, none⟩ = some (.int .u8 (bs.getD i 0))

theorem Rd.keep {w w' : World} {v : Value} {bs : List Int} (h : Rd w v bs) (hk : ∀ b o u, w.cell? ⟨b, o, none⟩ = some u → (∃ a n c, v = .slice (some a) n c ∧ a.block = b) → w'.cell? ⟨b, o, none⟩ = some u) : Rd w' v bs :=
  ⟨h.form, fun h0 => by
    obtain ⟨b, off, cap, hv, hc⟩ := h.cells h0
    exact ⟨b, off, cap, hv, fun i hi => hk _ _ _ (hc i hi) ⟨_, _, _, hv, rfl⟩⟩⟩
theorem Rd.below {w w' : World} {v : Value} {bs : List Int} (h : Rd w v bs) (hb : Below w.heap.size w w') : Rd w' v bs :=
  h.keep fun b o _ hu _ => (hb.cell (p := ⟨b, o, none⟩) (ncell_lt hu)).trans hu
theorem Rd.alloc {w : World} {v : Value} {bs : List Int} (h : Rd w v bs) (o : Obj) : Rd (w.alloc o) v bs := h.below (nbelow1 w o)
theorem Rd.drew {w : World} {v : Value} {bs : List Int} (h : Rd w v bs) : Rd w.drew v bs := ⟨h.form, h.cells⟩
theorem Rd.kept {S : Nat → Prop} {w w' : World} {v : Value} {bs : List Int} (h : Rd w v bs) (hk : Kept S w w') (hn : ∀ k, v.ownBlock = some k → ¬ S k) : Rd w' v bs :=
  h.keep fun b _ _ hu ⟨a, n, c, hv, hab⟩ => (World.cell?_of_block (hk.block b (ncell_lt hu) (hn b (by rw [hv]; simp [Value.ownBlock, hab])))).trans hu

/-- The cells of a list of bytes. -/
def u8s (bs : List Int) : List Value := bs.map (Value.int .u8)
theorem u8s_len (bs : List Int) : (u8s bs).length = bs.length := by simp [u8s]

/-- Bytes of the network's own: a row of one's own. -/
def OwnB (w : World) (v : Value) (bs : List Int) : Prop := w.ownsRow 0 5 1 v bs.length (u8s bs)
theorem OwnB.rd {w : World} {v : Value} {bs : List Int} (h : OwnB w v bs) : Rd w v bs := by
  have h' := h
  rcases h.2 with ⟨rfl, h0⟩ | ⟨g, cap, cur, rfl, _, hg, _⟩
  · have : bs = [] := List.eq_nil_of_length_eq_zero h0
    subst this
    exact ⟨⟨none, 0, rfl, fun _ => ⟨rfl, rfl⟩⟩, fun h => by simp at h⟩
  · refine ⟨⟨_, _, rfl, fun h => by cases h⟩, fun _ => ⟨g, 0, cap, rfl, fun i hi => ?_⟩⟩
    rw [Nat.zero_add, World.ownsRow.cellAt h' i (by omega)]
    simp [u8s, hi]
theorem own_kept {S : Nat → Prop} {w w' : World} {e : TypeId} {size n : Nat} {v : Value} {xs : List Value} (h : w.ownsRow 0 e size v n xs) (hk : Kept S w w') (hn : ∀ k, v.ownBlock = some k → ¬ S k) : w'.ownsRow 0 e size v n xs := by
  refine ⟨h.1, ?_⟩
  rcases h.2 with h | ⟨g, cap, cur, rfl, hb, hg, r⟩
  · exact .inl h
  · exact .inr ⟨g, cap, cur, rfl, hb, by rw [hk.block g (by
      rcases Nat.lt_or_ge g w.heap.size with hlt | hge
      · exact hlt
      · rw [Array.getElem?_eq_none hge] at hg; cases hg) (hn g rfl)]; exact hg, r⟩
theorem own_lt {w : World} {e : TypeId} {size n : Nat} {v : Value} {xs : List Value} (h : w.ownsRow 0 e size v n xs) {k : Nat} (hk : v.ownBlock = some k) : k < w.heap.size := by
  rcases h.2 with ⟨rfl, _⟩ | ⟨g, cap, cur, rfl, _, hg, _⟩
  · simp [Value.ownBlock] at hk
  · have : g = k := by simpa [Value.ownBlock] using hk
    subst this
    rcases Nat.lt_or_ge g w.heap.size with hlt | hge
    · exact hlt
    · rw [Array.getElem?_eq_none hge] at hg; cases hg

/-- A host's name is allowed. -/
def hostB (s : ByteArray) : Bool := decide (1 ≤ s.size) && decide (s.size ≤ 32)
theorem validHost_any (s : ByteArray) (w : World) (hs : s.size ≤ 9223372036854775807) : Calls Try.prog 62 #[.string s] w fun e w' => e = .returned (.bool (hostB s)) ∧ w = w' := by
  by_cases h1 : 1 ≤ s.size
  · have hb : decide ((s.size : Int) ≤ 32) = hostB s := by
      have : ((s.size : Int) ≤ 32) ↔ s.size ≤ 32 := by omega
      simp [hostB, h1, this]
    have HB := Lib.hid hb
    clear hb
    go_enter Try.func62, Try.ntmps62
    go_wp2
    go_ret
    exact ⟨nret_bool HB.out, rfl⟩
  · have hb : false = hostB s := by simp [hostB, h1]
    have HB := Lib.hid hb
    clear hb
    go_enter Try.func62, Try.ntmps62
    go_wp2
    go_ret
    exact ⟨nret_bool HB.out, rfl⟩

/-- A packet is allowed. -/
def validB (f t : ByteArray) (n : Nat) : Bool := hostB f && (hostB t && decide (n ≤ 65536))
theorem valid_any (f t : ByteArray) (a : Option Addr) (n cap : Nat) (w : World) (hf : f.size ≤ 9223372036854775807) (ht : t.size ≤ 9223372036854775807) (hn : n ≤ 9223372036854775807) :
    Calls Try.prog 53 #[.agg #[.string f, .string t, .slice a n cap]] w fun e w' => e = .returned (.bool (validB f t n)) ∧ Below w.heap.size w w' := by
  rcases h1 : hostB f with _ | _
  · have hb : false = validB f t n := by simp [validB, h1]
    have HB := Lib.hid hb
    clear hb
    go_enter Try.func53, Try.ntmps53
    go_wp2_with fail
    refine (validHost_any _ _ hf).mono ?_; rintro e w' ⟨rfl, rfl⟩
    go_wp2_with fail
    go_ret
    exact ⟨nret_bool HB.out, nbelow1 _ _⟩
  · rcases h2 : hostB t with _ | _
    · have hb : false = validB f t n := by simp [validB, h2]
      have HB := Lib.hid hb
      clear hb
      go_enter Try.func53, Try.ntmps53
      go_wp2_with fail
      refine (validHost_any _ _ hf).mono ?_; rintro e w' ⟨rfl, rfl⟩
      go_wp2_with fail
      refine (validHost_any _ _ ht).mono ?_; rintro e w' ⟨rfl, rfl⟩
      go_wp2_with fail
      go_ret
      exact ⟨nret_bool HB.out, nbelow1 _ _⟩
    · have hb : decide ((n : Int) ≤ 65536) = validB f t n := by
        have : ((n : Int) ≤ 65536) ↔ n ≤ 65536 := by omega
        simp [validB, h1, h2, this]
      have HB := Lib.hid hb
      clear hb
      go_enter Try.func53, Try.ntmps53
      go_wp2_with fail
      refine (validHost_any _ _ hf).mono ?_; rintro e w' ⟨rfl, rfl⟩
      go_wp2_with fail
      refine (validHost_any _ _ ht).mono ?_; rintro e w' ⟨rfl, rfl⟩
      go_wp2_with fail
      go_ret
      exact ⟨nret_bool HB.out, nbelow1 _ _⟩

end Go.Proofs.Yticnklmpplicfaa
