/-
  No cell of these rows narrows 'for every input' (looked for: loops, veiled, ifaces, maps, wideKeys, modest, calm, conditions, laid).
  DERIVED. THE GIVEN ROWS OF THIS SEAT. 7 by the template 'for every input the law returns true; each argument reads behind the call as it read before'; 0 by the template 'total and deterministic' (their statements: YticnklmpplicfaaTotals.lean).
  GIVEN WITH THE SEED: the statements are not yours to turn. If you find one false, say at which input.
  Laid BY PROGRAM, IN A SANDBOX (cutbox-rows.mjs): the forced cells as the released guide's own fill.sh prints them over the translation 66d2e442d717bf82… (all of the seat's roots in one cut). By AI agents, Wed Nov 11 2026. No macro, syntax, notation, axiom, sorry.
-/
import Derived.Test.YticnklmpplicfaaChecked
import GoSem.Claim
import GoSem.ClaimJoined
import GoSem.ClaimMapViews
import Derived.JoinedTies
import Derived.KernelRfl
namespace Go.Proofs.Yticnklmpplicfaa
/- THE CELL 'sum', in the pinned program and in every row, IS THE sha256 OF THE DUMP (.gsa) THAT YticnklmpplicfaaProg.lean LOADS. Nothing in Lean hashes anything: it is a label: what it is worth is what the hold of that sum in a sandbox is worth. -/
noncomputable def Try.pinned : Pinned := { name := "yticnklmpplicfaa", sum := "66d2e442d717bf829067b6376dc07c8dddff2154a2646aaa6ec4494dd46c9344", checked := Try.checked }
namespace Rows
def none {H : Type} : Left H := { results := [], args := [] }

/-- 'watchwordlaw47.DriftExceeds': WHATEVER THE INPUT: true; the input reads as it did. -/
def driftExceedsSpec : ChangeSpec := { name := "driftExceeds", fn := fun _ => fun
  | [d1, d2, d3, d4, d5] => { results := [.lit (.bool true)], args := [d1, d2, d3, d4, d5] }
  | _ => none }
def driftExceedsRow : OpenClaim := { program := "yticnklmpplicfaa", sum := "66d2e442d717bf829067b6376dc07c8dddff2154a2646aaa6ec4494dd46c9344", func := "watchword/watchwordlaw47.DriftExceeds", spec := "driftExceeds", unfollowed := true, recurses := true, plainKeys := false, apart := false }
def DriftExceedsSaid : Prop := driftExceedsRow.holds Try.pinned (OpenSpec.ofChange driftExceedsSpec)

/-- ITS FALSE NEIGHBOUR: 'it returns false'. Refute it at one input. -/
def driftExceedsWrong : ChangeSpec := { name := "driftExceeds", fn := fun _ => fun
  | [d1, d2, d3, d4, d5] => { results := [.lit (.bool false)], args := [d1, d2, d3, d4, d5] }
  | _ => none }
def DriftExceedsWrongFalsely : Prop := driftExceedsRow.holds Try.pinned (OpenSpec.ofChange driftExceedsWrong)

/-- 'watchwordlaw47.DriftPlays': WHATEVER THE INPUT: true; the input reads as it did. -/
def driftPlaysSpec : ChangeSpec := { name := "driftPlays", fn := fun _ => fun
  | [d1, d2, d3, d4] => { results := [.lit (.bool true)], args := [d1, d2, d3, d4] }
  | _ => none }
def driftPlaysRow : OpenClaim := { program := "yticnklmpplicfaa", sum := "66d2e442d717bf829067b6376dc07c8dddff2154a2646aaa6ec4494dd46c9344", func := "watchword/watchwordlaw47.DriftPlays", spec := "driftPlays", unfollowed := true, recurses := true, plainKeys := false, apart := false }
def DriftPlaysSaid : Prop := driftPlaysRow.holds Try.pinned (OpenSpec.ofChange driftPlaysSpec)

/-- ITS FALSE NEIGHBOUR: 'it returns false'. Refute it at one input. -/
def driftPlaysWrong : ChangeSpec := { name := "driftPlays", fn := fun _ => fun
  | [d1, d2, d3, d4] => { results := [.lit (.bool false)], args := [d1, d2, d3, d4] }
  | _ => none }
def DriftPlaysWrongFalsely : Prop := driftPlaysRow.holds Try.pinned (OpenSpec.ofChange driftPlaysWrong)

/-- 'watchwordlaw47.DriftGrows': WHATEVER THE INPUT: true; the input reads as it did. -/
def driftGrowsSpec : ChangeSpec := { name := "driftGrows", fn := fun _ => fun
  | [d1, d2, d3, d4, d5, d6] => { results := [.lit (.bool true)], args := [d1, d2, d3, d4, d5, d6] }
  | _ => none }
def driftGrowsRow : OpenClaim := { program := "yticnklmpplicfaa", sum := "66d2e442d717bf829067b6376dc07c8dddff2154a2646aaa6ec4494dd46c9344", func := "watchword/watchwordlaw47.DriftGrows", spec := "driftGrows", unfollowed := true, recurses := true, plainKeys := false, apart := false }
def DriftGrowsSaid : Prop := driftGrowsRow.holds Try.pinned (OpenSpec.ofChange driftGrowsSpec)

/-- ITS FALSE NEIGHBOUR: 'it returns false'. Refute it at one input. -/
def driftGrowsWrong : ChangeSpec := { name := "driftGrows", fn := fun _ => fun
  | [d1, d2, d3, d4, d5, d6] => { results := [.lit (.bool false)], args := [d1, d2, d3, d4, d5, d6] }
  | _ => none }
def DriftGrowsWrongFalsely : Prop := driftGrowsRow.holds Try.pinned (OpenSpec.ofChange driftGrowsWrong)

/-- 'watchwordlaw47.DriftCompares': WHATEVER THE INPUT: true; the input reads as it did. -/
def driftComparesSpec : ChangeSpec := { name := "driftCompares", fn := fun _ => fun
  | [d1, d2, d3, d4] => { results := [.lit (.bool true)], args := [d1, d2, d3, d4] }
  | _ => none }
def driftComparesRow : OpenClaim := { program := "yticnklmpplicfaa", sum := "66d2e442d717bf829067b6376dc07c8dddff2154a2646aaa6ec4494dd46c9344", func := "watchword/watchwordlaw47.DriftCompares", spec := "driftCompares", unfollowed := true, recurses := true, plainKeys := false, apart := false }
def DriftComparesSaid : Prop := driftComparesRow.holds Try.pinned (OpenSpec.ofChange driftComparesSpec)

/-- ITS FALSE NEIGHBOUR: 'it returns false'. Refute it at one input. -/
def driftComparesWrong : ChangeSpec := { name := "driftCompares", fn := fun _ => fun
  | [d1, d2, d3, d4] => { results := [.lit (.bool false)], args := [d1, d2, d3, d4] }
  | _ => none }
def DriftComparesWrongFalsely : Prop := driftComparesRow.holds Try.pinned (OpenSpec.ofChange driftComparesWrong)

/-- 'watchwordlaw47.DriftNone': WHATEVER THE INPUT: true; the input reads as it did. -/
def driftNoneSpec : ChangeSpec := { name := "driftNone", fn := fun _ => fun
  | [d1, d2] => { results := [.lit (.bool true)], args := [d1, d2] }
  | _ => none }
def driftNoneRow : OpenClaim := { program := "yticnklmpplicfaa", sum := "66d2e442d717bf829067b6376dc07c8dddff2154a2646aaa6ec4494dd46c9344", func := "watchword/watchwordlaw47.DriftNone", spec := "driftNone", unfollowed := true, recurses := true, plainKeys := false, apart := false }
def DriftNoneSaid : Prop := driftNoneRow.holds Try.pinned (OpenSpec.ofChange driftNoneSpec)

/-- ITS FALSE NEIGHBOUR: 'it returns false'. Refute it at one input. -/
def driftNoneWrong : ChangeSpec := { name := "driftNone", fn := fun _ => fun
  | [d1, d2] => { results := [.lit (.bool false)], args := [d1, d2] }
  | _ => none }
def DriftNoneWrongFalsely : Prop := driftNoneRow.holds Try.pinned (OpenSpec.ofChange driftNoneWrong)

/-- 'watchwordlaw48.NetworkFills': WHATEVER THE INPUT: true; the input reads as it did. -/
def networkFillsSpec : ChangeSpec := { name := "networkFills", fn := fun _ => fun
  | [d1, d2] => { results := [.lit (.bool true)], args := [d1, d2] }
  | _ => none }
def networkFillsRow : OpenClaim := { program := "yticnklmpplicfaa", sum := "66d2e442d717bf829067b6376dc07c8dddff2154a2646aaa6ec4494dd46c9344", func := "watchword/watchwordlaw48.NetworkFills", spec := "networkFills", unfollowed := true, recurses := true, plainKeys := false, apart := false }
def NetworkFillsSaid : Prop := networkFillsRow.holds Try.pinned (OpenSpec.ofChange networkFillsSpec)

/-- ITS FALSE NEIGHBOUR: 'it returns false'. Refute it at one input. -/
def networkFillsWrong : ChangeSpec := { name := "networkFills", fn := fun _ => fun
  | [d1, d2] => { results := [.lit (.bool false)], args := [d1, d2] }
  | _ => none }
def NetworkFillsWrongFalsely : Prop := networkFillsRow.holds Try.pinned (OpenSpec.ofChange networkFillsWrong)

/-- 'watchwordlaw48.NetworkConserves': WHATEVER THE INPUT: true; the input reads as it did. -/
def networkConservesSpec : ChangeSpec := { name := "networkConserves", fn := fun _ => fun
  | [d] => { results := [.lit (.bool true)], args := [d] }
  | _ => none }
def networkConservesRow : OpenClaim := { program := "yticnklmpplicfaa", sum := "66d2e442d717bf829067b6376dc07c8dddff2154a2646aaa6ec4494dd46c9344", func := "watchword/watchwordlaw48.NetworkConserves", spec := "networkConserves", unfollowed := true, recurses := true, plainKeys := false, apart := false }
def NetworkConservesSaid : Prop := networkConservesRow.holds Try.pinned (OpenSpec.ofChange networkConservesSpec)

/-- ITS FALSE NEIGHBOUR: 'it returns false'. Refute it at one input. -/
def networkConservesWrong : ChangeSpec := { name := "networkConserves", fn := fun _ => fun
  | [d] => { results := [.lit (.bool false)], args := [d] }
  | _ => none }
def NetworkConservesWrongFalsely : Prop := networkConservesRow.holds Try.pinned (OpenSpec.ofChange networkConservesWrong)

/- THE SECOND FORM. 'bulk': how many values and letters a reading holds, each counted each time it is reached (what is shared counts as often as it is met; a slice's spare places count too). A statement '..UptoSaid' is the law's where the arguments, and the package variables that the reading takes, are together of bulk at most 1048576: NARROWER than '..Said'. Prove '..Said' where nothing that the law and all that it calls make is longer than what came in: it says more and counts as full. Else prove '..UptoSaid'. A law counts once. -/
mutual
def uptoBulk {H : Type} : DataW H → Nat
  | .lit (.string bytes) => bytes.length + 1
  | .lit _ => 1
  | .nil => 1
  | .ptr d => uptoBulk d + 1
  | .slice elems spare => uptoBulkAll elems + uptoBulkAll spare + 1
  | .agg parts => uptoBulkAll parts + 1
  | .iface _ d => uptoBulk d + 1
  | .map entries => uptoBulkEntries entries + 1
  | .held _ => 1
def uptoBulkAll {H : Type} : List (DataW H) → Nat
  | [] => 0
  | d :: r => uptoBulk d + uptoBulkAll r
def uptoBulkEntries {H : Type} : List (Lit × DataW H) → Nat
  | [] => 0
  | x :: r => uptoBulkEntry x + uptoBulkEntries r
def uptoBulkEntry {H : Type} : Lit × DataW H → Nat
  | (.string bytes, d) => bytes.length + uptoBulk d + 1
  | (_, d) => uptoBulk d + 1
 end
def uptoSmall : (H : Type) → List (DataW H) → Bool := fun _ ds => decide (uptoBulkAll ds ≤ 1048576)
def OpenSpec.upto (s : _root_.Go.ChangeSpec) : _root_.Go.OpenSpec := { _root_.Go.OpenSpec.ofChange s with cond := some uptoSmall }

/-- 'watchwordlaw47.DriftExceeds', WHERE WHAT IT READS IS OF BULK AT MOST 1048576: true; the input reads as it did. -/
def driftExceedsUptoRow : OpenClaim := { program := "yticnklmpplicfaa", sum := "66d2e442d717bf829067b6376dc07c8dddff2154a2646aaa6ec4494dd46c9344", func := "watchword/watchwordlaw47.DriftExceeds", spec := "driftExceeds", unfollowed := true, recurses := true, plainKeys := false, apart := false, narrowed := true }
def DriftExceedsUptoSaid : Prop := driftExceedsUptoRow.holds Try.pinned (OpenSpec.upto driftExceedsSpec)

/-- 'watchwordlaw47.DriftPlays', WHERE WHAT IT READS IS OF BULK AT MOST 1048576: true; the input reads as it did. -/
def driftPlaysUptoRow : OpenClaim := { program := "yticnklmpplicfaa", sum := "66d2e442d717bf829067b6376dc07c8dddff2154a2646aaa6ec4494dd46c9344", func := "watchword/watchwordlaw47.DriftPlays", spec := "driftPlays", unfollowed := true, recurses := true, plainKeys := false, apart := false, narrowed := true }
def DriftPlaysUptoSaid : Prop := driftPlaysUptoRow.holds Try.pinned (OpenSpec.upto driftPlaysSpec)

/-- 'watchwordlaw47.DriftGrows', WHERE WHAT IT READS IS OF BULK AT MOST 1048576: true; the input reads as it did. -/
def driftGrowsUptoRow : OpenClaim := { program := "yticnklmpplicfaa", sum := "66d2e442d717bf829067b6376dc07c8dddff2154a2646aaa6ec4494dd46c9344", func := "watchword/watchwordlaw47.DriftGrows", spec := "driftGrows", unfollowed := true, recurses := true, plainKeys := false, apart := false, narrowed := true }
def DriftGrowsUptoSaid : Prop := driftGrowsUptoRow.holds Try.pinned (OpenSpec.upto driftGrowsSpec)

/-- 'watchwordlaw47.DriftCompares', WHERE WHAT IT READS IS OF BULK AT MOST 1048576: true; the input reads as it did. -/
def driftComparesUptoRow : OpenClaim := { program := "yticnklmpplicfaa", sum := "66d2e442d717bf829067b6376dc07c8dddff2154a2646aaa6ec4494dd46c9344", func := "watchword/watchwordlaw47.DriftCompares", spec := "driftCompares", unfollowed := true, recurses := true, plainKeys := false, apart := false, narrowed := true }
def DriftComparesUptoSaid : Prop := driftComparesUptoRow.holds Try.pinned (OpenSpec.upto driftComparesSpec)

/-- 'watchwordlaw47.DriftNone', WHERE WHAT IT READS IS OF BULK AT MOST 1048576: true; the input reads as it did. -/
def driftNoneUptoRow : OpenClaim := { program := "yticnklmpplicfaa", sum := "66d2e442d717bf829067b6376dc07c8dddff2154a2646aaa6ec4494dd46c9344", func := "watchword/watchwordlaw47.DriftNone", spec := "driftNone", unfollowed := true, recurses := true, plainKeys := false, apart := false, narrowed := true }
def DriftNoneUptoSaid : Prop := driftNoneUptoRow.holds Try.pinned (OpenSpec.upto driftNoneSpec)

/-- 'watchwordlaw48.NetworkFills', WHERE WHAT IT READS IS OF BULK AT MOST 1048576: true; the input reads as it did. -/
def networkFillsUptoRow : OpenClaim := { program := "yticnklmpplicfaa", sum := "66d2e442d717bf829067b6376dc07c8dddff2154a2646aaa6ec4494dd46c9344", func := "watchword/watchwordlaw48.NetworkFills", spec := "networkFills", unfollowed := true, recurses := true, plainKeys := false, apart := false, narrowed := true }
def NetworkFillsUptoSaid : Prop := networkFillsUptoRow.holds Try.pinned (OpenSpec.upto networkFillsSpec)

/-- 'watchwordlaw48.NetworkConserves', WHERE WHAT IT READS IS OF BULK AT MOST 1048576: true; the input reads as it did. -/
def networkConservesUptoRow : OpenClaim := { program := "yticnklmpplicfaa", sum := "66d2e442d717bf829067b6376dc07c8dddff2154a2646aaa6ec4494dd46c9344", func := "watchword/watchwordlaw48.NetworkConserves", spec := "networkConserves", unfollowed := true, recurses := true, plainKeys := false, apart := false, narrowed := true }
def NetworkConservesUptoSaid : Prop := networkConservesUptoRow.holds Try.pinned (OpenSpec.upto networkConservesSpec)

end Rows
end Go.Proofs.Yticnklmpplicfaa
