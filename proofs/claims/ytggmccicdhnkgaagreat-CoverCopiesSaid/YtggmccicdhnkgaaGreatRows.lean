/-
  No cell of these rows narrows 'for every input' (looked for: loops, veiled, ifaces, maps, wideKeys, modest, calm, conditions, laid).
  DERIVED. THE GIVEN ROWS OF THIS SEAT. 6 by the template 'for every input the law returns true; each argument reads behind the call as it read before'; 0 by the template 'total and deterministic' (their statements: YtggmccicdhnkgaaGreatTotals.lean).
  GIVEN WITH THE SEED: the statements are not yours to turn. If you find one false, say at which input.
  Laid BY PROGRAM, IN A SANDBOX (cutbox-rows.mjs): the forced cells as the released guide's own fill.sh prints them over the translation 78cee12f5561ff69… (all of the seat's roots in one cut). By AI agents, Wed Nov 11 2026. No macro, syntax, notation, axiom, sorry.
-/
import Derived.Test.YtggmccicdhnkgaaGreatChecked
import GoSem.Claim
import GoSem.ClaimJoined
import GoSem.ClaimMapViews
import Derived.JoinedTies
import Derived.KernelRfl
namespace Go.Proofs.YtggmccicdhnkgaaGreat
/- THE CELL 'sum', in the pinned program and in every row, IS THE sha256 OF THE DUMP (.gsa) THAT YtggmccicdhnkgaaGreatProg.lean LOADS. Nothing in Lean hashes anything: it is a label: what it is worth is what the hold of that sum in a sandbox is worth. -/
noncomputable def Tryz.pinned : Pinned := { name := "ytggmccicdhnkgaagreat", sum := "78cee12f5561ff690ddb5445235da8b47950ec3ce183bbe9a0afef9215cb30d8", checked := Tryz.checked }
namespace Rows
def none {H : Type} : Left H := { results := [], args := [] }

/-- 'refuterlaw26.CoverFresh': WHATEVER THE INPUT: true; the input reads as it did. -/
def coverFreshSpec : ChangeSpec := { name := "coverFresh", fn := fun _ => fun
  | [d1, d2, d3] => { results := [.lit (.bool true)], args := [d1, d2, d3] }
  | _ => none }
def coverFreshRow : OpenClaim := { program := "ytggmccicdhnkgaagreat", sum := "78cee12f5561ff690ddb5445235da8b47950ec3ce183bbe9a0afef9215cb30d8", func := "refuter/refuterlaw26.CoverFresh", spec := "coverFresh", unfollowed := true, recurses := true, plainKeys := false, apart := false }
def CoverFreshSaid : Prop := coverFreshRow.holds Tryz.pinned (OpenSpec.ofChange coverFreshSpec)

/-- ITS FALSE NEIGHBOUR: 'it returns false'. Refute it at one input. -/
def coverFreshWrong : ChangeSpec := { name := "coverFresh", fn := fun _ => fun
  | [d1, d2, d3] => { results := [.lit (.bool false)], args := [d1, d2, d3] }
  | _ => none }
def CoverFreshWrongFalsely : Prop := coverFreshRow.holds Tryz.pinned (OpenSpec.ofChange coverFreshWrong)

/-- 'refuterlaw26.CoverRuns': WHATEVER THE INPUT: true; the input reads as it did. -/
def coverRunsSpec : ChangeSpec := { name := "coverRuns", fn := fun _ => fun
  | [d1, d2, d3] => { results := [.lit (.bool true)], args := [d1, d2, d3] }
  | _ => none }
def coverRunsRow : OpenClaim := { program := "ytggmccicdhnkgaagreat", sum := "78cee12f5561ff690ddb5445235da8b47950ec3ce183bbe9a0afef9215cb30d8", func := "refuter/refuterlaw26.CoverRuns", spec := "coverRuns", unfollowed := true, recurses := true, plainKeys := false, apart := false }
def CoverRunsSaid : Prop := coverRunsRow.holds Tryz.pinned (OpenSpec.ofChange coverRunsSpec)

/-- ITS FALSE NEIGHBOUR: 'it returns false'. Refute it at one input. -/
def coverRunsWrong : ChangeSpec := { name := "coverRuns", fn := fun _ => fun
  | [d1, d2, d3] => { results := [.lit (.bool false)], args := [d1, d2, d3] }
  | _ => none }
def CoverRunsWrongFalsely : Prop := coverRunsRow.holds Tryz.pinned (OpenSpec.ofChange coverRunsWrong)

/-- 'refuterlaw26.CoverMerges': WHATEVER THE INPUT: true; the input reads as it did. -/
def coverMergesSpec : ChangeSpec := { name := "coverMerges", fn := fun _ => fun
  | [d1, d2, d3, d4, d5, d6] => { results := [.lit (.bool true)], args := [d1, d2, d3, d4, d5, d6] }
  | _ => none }
def coverMergesRow : OpenClaim := { program := "ytggmccicdhnkgaagreat", sum := "78cee12f5561ff690ddb5445235da8b47950ec3ce183bbe9a0afef9215cb30d8", func := "refuter/refuterlaw26.CoverMerges", spec := "coverMerges", unfollowed := true, recurses := true, plainKeys := false, apart := false }
def CoverMergesSaid : Prop := coverMergesRow.holds Tryz.pinned (OpenSpec.ofChange coverMergesSpec)

/-- ITS FALSE NEIGHBOUR: 'it returns false'. Refute it at one input. -/
def coverMergesWrong : ChangeSpec := { name := "coverMerges", fn := fun _ => fun
  | [d1, d2, d3, d4, d5, d6] => { results := [.lit (.bool false)], args := [d1, d2, d3, d4, d5, d6] }
  | _ => none }
def CoverMergesWrongFalsely : Prop := coverMergesRow.holds Tryz.pinned (OpenSpec.ofChange coverMergesWrong)

/-- 'refuterlaw26.CoverOrder': WHATEVER THE INPUT: true; the input reads as it did. -/
def coverOrderSpec : ChangeSpec := { name := "coverOrder", fn := fun _ => fun
  | [d1, d2, d3, d4] => { results := [.lit (.bool true)], args := [d1, d2, d3, d4] }
  | _ => none }
def coverOrderRow : OpenClaim := { program := "ytggmccicdhnkgaagreat", sum := "78cee12f5561ff690ddb5445235da8b47950ec3ce183bbe9a0afef9215cb30d8", func := "refuter/refuterlaw26.CoverOrder", spec := "coverOrder", unfollowed := true, recurses := true, plainKeys := false, apart := false }
def CoverOrderSaid : Prop := coverOrderRow.holds Tryz.pinned (OpenSpec.ofChange coverOrderSpec)

/-- ITS FALSE NEIGHBOUR: 'it returns false'. Refute it at one input. -/
def coverOrderWrong : ChangeSpec := { name := "coverOrder", fn := fun _ => fun
  | [d1, d2, d3, d4] => { results := [.lit (.bool false)], args := [d1, d2, d3, d4] }
  | _ => none }
def CoverOrderWrongFalsely : Prop := coverOrderRow.holds Tryz.pinned (OpenSpec.ofChange coverOrderWrong)

/-- 'refuterlaw26.CoverBytes': WHATEVER THE INPUT: true; the input reads as it did. -/
def coverBytesSpec : ChangeSpec := { name := "coverBytes", fn := fun _ => fun
  | [d1, d2, d3, d4, d5, d6, d7] => { results := [.lit (.bool true)], args := [d1, d2, d3, d4, d5, d6, d7] }
  | _ => none }
def coverBytesRow : OpenClaim := { program := "ytggmccicdhnkgaagreat", sum := "78cee12f5561ff690ddb5445235da8b47950ec3ce183bbe9a0afef9215cb30d8", func := "refuter/refuterlaw26.CoverBytes", spec := "coverBytes", unfollowed := true, recurses := true, plainKeys := false, apart := false }
def CoverBytesSaid : Prop := coverBytesRow.holds Tryz.pinned (OpenSpec.ofChange coverBytesSpec)

/-- ITS FALSE NEIGHBOUR: 'it returns false'. Refute it at one input. -/
def coverBytesWrong : ChangeSpec := { name := "coverBytes", fn := fun _ => fun
  | [d1, d2, d3, d4, d5, d6, d7] => { results := [.lit (.bool false)], args := [d1, d2, d3, d4, d5, d6, d7] }
  | _ => none }
def CoverBytesWrongFalsely : Prop := coverBytesRow.holds Tryz.pinned (OpenSpec.ofChange coverBytesWrong)

/-- 'refuterlaw26.CoverCopies': WHATEVER THE INPUT: true; the input reads as it did. -/
def coverCopiesSpec : ChangeSpec := { name := "coverCopies", fn := fun _ => fun
  | [d1, d2, d3] => { results := [.lit (.bool true)], args := [d1, d2, d3] }
  | _ => none }
def coverCopiesRow : OpenClaim := { program := "ytggmccicdhnkgaagreat", sum := "78cee12f5561ff690ddb5445235da8b47950ec3ce183bbe9a0afef9215cb30d8", func := "refuter/refuterlaw26.CoverCopies", spec := "coverCopies", unfollowed := true, recurses := true, plainKeys := false, apart := false }
def CoverCopiesSaid : Prop := coverCopiesRow.holds Tryz.pinned (OpenSpec.ofChange coverCopiesSpec)

/-- ITS FALSE NEIGHBOUR: 'it returns false'. Refute it at one input. -/
def coverCopiesWrong : ChangeSpec := { name := "coverCopies", fn := fun _ => fun
  | [d1, d2, d3] => { results := [.lit (.bool false)], args := [d1, d2, d3] }
  | _ => none }
def CoverCopiesWrongFalsely : Prop := coverCopiesRow.holds Tryz.pinned (OpenSpec.ofChange coverCopiesWrong)

/- THE SECOND FORM. 'bulk': how many values and letters a reading holds, each counted each time it is reached (what is shared counts as often as it is met; a slice's spare places count too). A statement '..UptoSaid' is the law's where the arguments, and the package variables that the reading takes, are together of bulk at most 1048576: NARROWER than '..Said'. Prove '..Said' where nothing that the law and all that it calls make is longer than what came in: it says more and counts as full. Else prove '..UptoSaid'. A law counts once. -/
mutual
def uptoBulk {H : Type} : DataW H → Nat
  | .lit (.string bytes) => bytes.length + 1
  | .lit _ => 1
  | .nil => 1
  | .ptr d => uptoBulk d + 1
  | .slice elems spare => uptoBulkAll elems + uptoBulkAll spare + 1
  | .agg parts => uptoBulkAll parts + 1
  | .iface _ d => uptoBulk d + 1
  | .map entries => uptoBulkEntries entries + 1
  | .held _ => 1
def uptoBulkAll {H : Type} : List (DataW H) → Nat
  | [] => 0
  | d :: r => uptoBulk d + uptoBulkAll r
def uptoBulkEntries {H : Type} : List (Lit × DataW H) → Nat
  | [] => 0
  | x :: r => uptoBulkEntry x + uptoBulkEntries r
def uptoBulkEntry {H : Type} : Lit × DataW H → Nat
  | (.string bytes, d) => bytes.length + uptoBulk d + 1
  | (_, d) => uptoBulk d + 1
 end
def uptoSmall : (H : Type) → List (DataW H) → Bool := fun _ ds => decide (uptoBulkAll ds ≤ 1048576)
def OpenSpec.upto (s : _root_.Go.ChangeSpec) : _root_.Go.OpenSpec := { _root_.Go.OpenSpec.ofChange s with cond := some uptoSmall }

/-- 'refuterlaw26.CoverFresh', WHERE WHAT IT READS IS OF BULK AT MOST 1048576: true; the input reads as it did. -/
def coverFreshUptoRow : OpenClaim := { program := "ytggmccicdhnkgaagreat", sum := "78cee12f5561ff690ddb5445235da8b47950ec3ce183bbe9a0afef9215cb30d8", func := "refuter/refuterlaw26.CoverFresh", spec := "coverFresh", unfollowed := true, recurses := true, plainKeys := false, apart := false, narrowed := true }
def CoverFreshUptoSaid : Prop := coverFreshUptoRow.holds Tryz.pinned (OpenSpec.upto coverFreshSpec)

/-- 'refuterlaw26.CoverRuns', WHERE WHAT IT READS IS OF BULK AT MOST 1048576: true; the input reads as it did. -/
def coverRunsUptoRow : OpenClaim := { program := "ytggmccicdhnkgaagreat", sum := "78cee12f5561ff690ddb5445235da8b47950ec3ce183bbe9a0afef9215cb30d8", func := "refuter/refuterlaw26.CoverRuns", spec := "coverRuns", unfollowed := true, recurses := true, plainKeys := false, apart := false, narrowed := true }
def CoverRunsUptoSaid : Prop := coverRunsUptoRow.holds Tryz.pinned (OpenSpec.upto coverRunsSpec)

/-- 'refuterlaw26.CoverMerges', WHERE WHAT IT READS IS OF BULK AT MOST 1048576: true; the input reads as it did. -/
def coverMergesUptoRow : OpenClaim := { program := "ytggmccicdhnkgaagreat", sum := "78cee12f5561ff690ddb5445235da8b47950ec3ce183bbe9a0afef9215cb30d8", func := "refuter/refuterlaw26.CoverMerges", spec := "coverMerges", unfollowed := true, recurses := true, plainKeys := false, apart := false, narrowed := true }
def CoverMergesUptoSaid : Prop := coverMergesUptoRow.holds Tryz.pinned (OpenSpec.upto coverMergesSpec)

/-- 'refuterlaw26.CoverOrder', WHERE WHAT IT READS IS OF BULK AT MOST 1048576: true; the input reads as it did. -/
def coverOrderUptoRow : OpenClaim := { program := "ytggmccicdhnkgaagreat", sum := "78cee12f5561ff690ddb5445235da8b47950ec3ce183bbe9a0afef9215cb30d8", func := "refuter/refuterlaw26.CoverOrder", spec := "coverOrder", unfollowed := true, recurses := true, plainKeys := false, apart := false, narrowed := true }
def CoverOrderUptoSaid : Prop := coverOrderUptoRow.holds Tryz.pinned (OpenSpec.upto coverOrderSpec)

/-- 'refuterlaw26.CoverBytes', WHERE WHAT IT READS IS OF BULK AT MOST 1048576: true; the input reads as it did. -/
def coverBytesUptoRow : OpenClaim := { program := "ytggmccicdhnkgaagreat", sum := "78cee12f5561ff690ddb5445235da8b47950ec3ce183bbe9a0afef9215cb30d8", func := "refuter/refuterlaw26.CoverBytes", spec := "coverBytes", unfollowed := true, recurses := true, plainKeys := false, apart := false, narrowed := true }
def CoverBytesUptoSaid : Prop := coverBytesUptoRow.holds Tryz.pinned (OpenSpec.upto coverBytesSpec)

/-- 'refuterlaw26.CoverCopies', WHERE WHAT IT READS IS OF BULK AT MOST 1048576: true; the input reads as it did. -/
def coverCopiesUptoRow : OpenClaim := { program := "ytggmccicdhnkgaagreat", sum := "78cee12f5561ff690ddb5445235da8b47950ec3ce183bbe9a0afef9215cb30d8", func := "refuter/refuterlaw26.CoverCopies", spec := "coverCopies", unfollowed := true, recurses := true, plainKeys := false, apart := false, narrowed := true }
def CoverCopiesUptoSaid : Prop := coverCopiesUptoRow.holds Tryz.pinned (OpenSpec.upto coverCopiesSpec)

end Rows
end Go.Proofs.YtggmccicdhnkgaaGreat
