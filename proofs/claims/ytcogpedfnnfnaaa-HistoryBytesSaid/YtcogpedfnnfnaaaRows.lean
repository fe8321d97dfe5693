/-
  No cell of these rows narrows 'for every input' (looked for: loops, veiled, ifaces, maps, wideKeys, modest, calm, conditions, laid).
  DERIVED. THE GIVEN ROWS OF THIS SEAT. 8 by the template 'for every input the law returns true; each argument reads behind the call as it read before'; 0 by the template 'total and deterministic' (their statements: YtcogpedfnnfnaaaTotals.lean).
  GIVEN WITH THE SEED: the statements are not yours to turn. If you find one false, say at which input.
  Laid BY PROGRAM, IN A SANDBOX (cutbox-rows.mjs): the forced cells as the released guide's own fill.sh prints them over the translation 7381496f8d713d19… (all of the seat's roots in one cut). By AI agents, Wed Nov 11 2026. No macro, syntax, notation, axiom, sorry.
-/
import Derived.Test.YtcogpedfnnfnaaaChecked
import GoSem.Claim
import GoSem.ClaimJoined
import GoSem.ClaimMapViews
import Derived.JoinedTies
import Derived.KernelRfl
namespace Go.Proofs.Ytcogpedfnnfnaaa
/- THE CELL 'sum', in the pinned program and in every row, IS THE sha256 OF THE DUMP (.gsa) THAT YtcogpedfnnfnaaaProg.lean LOADS. Nothing in Lean hashes anything: it is a label: what it is worth is what the hold of that sum in a sandbox is worth. -/
noncomputable def Try.pinned : Pinned := { name := "ytcogpedfnnfnaaa", sum := "7381496f8d713d19da95cafbc53f071cb27977d70926b30e08fcc9c7f6cec79a", checked := Try.checked }
namespace Rows
def none {H : Type} : Left H := { results := [], args := [] }

/-- 'refuterlaw28.HistoryValid': WHATEVER THE INPUT: true; the input reads as it did. -/
def historyValidSpec : ChangeSpec := { name := "historyValid", fn := fun _ => fun
  | [d1, d2, d3, d4, d5, d6] => { results := [.lit (.bool true)], args := [d1, d2, d3, d4, d5, d6] }
  | _ => none }
def historyValidRow : OpenClaim := { program := "ytcogpedfnnfnaaa", sum := "7381496f8d713d19da95cafbc53f071cb27977d70926b30e08fcc9c7f6cec79a", func := "refuter/refuterlaw28.HistoryValid", spec := "historyValid", unfollowed := true, recurses := true, apart := false }
def HistoryValidSaid : Prop := historyValidRow.holds Try.pinned (OpenSpec.ofChange historyValidSpec)

/-- ITS FALSE NEIGHBOUR: 'it returns false'. Refute it at one input. -/
def historyValidWrong : ChangeSpec := { name := "historyValid", fn := fun _ => fun
  | [d1, d2, d3, d4, d5, d6] => { results := [.lit (.bool false)], args := [d1, d2, d3, d4, d5, d6] }
  | _ => none }
def HistoryValidWrongFalsely : Prop := historyValidRow.holds Try.pinned (OpenSpec.ofChange historyValidWrong)

/-- 'refuterlaw28.HistoryLimits': WHATEVER THE INPUT: true; the input reads as it did. -/
def historyLimitsSpec : ChangeSpec := { name := "historyLimits", fn := fun _ => fun
  | [d1, d2] => { results := [.lit (.bool true)], args := [d1, d2] }
  | _ => none }
def historyLimitsRow : OpenClaim := { program := "ytcogpedfnnfnaaa", sum := "7381496f8d713d19da95cafbc53f071cb27977d70926b30e08fcc9c7f6cec79a", func := "refuter/refuterlaw28.HistoryLimits", spec := "historyLimits", unfollowed := true, recurses := true, apart := false }
def HistoryLimitsSaid : Prop := historyLimitsRow.holds Try.pinned (OpenSpec.ofChange historyLimitsSpec)

/-- ITS FALSE NEIGHBOUR: 'it returns false'. Refute it at one input. -/
def historyLimitsWrong : ChangeSpec := { name := "historyLimits", fn := fun _ => fun
  | [d1, d2] => { results := [.lit (.bool false)], args := [d1, d2] }
  | _ => none }
def HistoryLimitsWrongFalsely : Prop := historyLimitsRow.holds Try.pinned (OpenSpec.ofChange historyLimitsWrong)

/-- 'refuterlaw28.HistoryPairs': WHATEVER THE INPUT: true; the input reads as it did. -/
def historyPairsSpec : ChangeSpec := { name := "historyPairs", fn := fun _ => fun
  | [d1, d2] => { results := [.lit (.bool true)], args := [d1, d2] }
  | _ => none }
def historyPairsRow : OpenClaim := { program := "ytcogpedfnnfnaaa", sum := "7381496f8d713d19da95cafbc53f071cb27977d70926b30e08fcc9c7f6cec79a", func := "refuter/refuterlaw28.HistoryPairs", spec := "historyPairs", unfollowed := true, recurses := true, apart := false }
def HistoryPairsSaid : Prop := historyPairsRow.holds Try.pinned (OpenSpec.ofChange historyPairsSpec)

/-- ITS FALSE NEIGHBOUR: 'it returns false'. Refute it at one input. -/
def historyPairsWrong : ChangeSpec := { name := "historyPairs", fn := fun _ => fun
  | [d1, d2] => { results := [.lit (.bool false)], args := [d1, d2] }
  | _ => none }
def HistoryPairsWrongFalsely : Prop := historyPairsRow.holds Try.pinned (OpenSpec.ofChange historyPairsWrong)

/-- 'refuterlaw28.HistoryClients': WHATEVER THE INPUT: true; the input reads as it did. -/
def historyClientsSpec : ChangeSpec := { name := "historyClients", fn := fun _ => fun
  | [d1, d2, d3] => { results := [.lit (.bool true)], args := [d1, d2, d3] }
  | _ => none }
def historyClientsRow : OpenClaim := { program := "ytcogpedfnnfnaaa", sum := "7381496f8d713d19da95cafbc53f071cb27977d70926b30e08fcc9c7f6cec79a", func := "refuter/refuterlaw28.HistoryClients", spec := "historyClients", unfollowed := true, recurses := true, apart := false }
def HistoryClientsSaid : Prop := historyClientsRow.holds Try.pinned (OpenSpec.ofChange historyClientsSpec)

/-- ITS FALSE NEIGHBOUR: 'it returns false'. Refute it at one input. -/
def historyClientsWrong : ChangeSpec := { name := "historyClients", fn := fun _ => fun
  | [d1, d2, d3] => { results := [.lit (.bool false)], args := [d1, d2, d3] }
  | _ => none }
def HistoryClientsWrongFalsely : Prop := historyClientsRow.holds Try.pinned (OpenSpec.ofChange historyClientsWrong)

/-- 'refuterlaw28.HistoryOrders': WHATEVER THE INPUT: true; the input reads as it did. -/
def historyOrdersSpec : ChangeSpec := { name := "historyOrders", fn := fun _ => fun
  | [d1, d2, d3, d4] => { results := [.lit (.bool true)], args := [d1, d2, d3, d4] }
  | _ => none }
def historyOrdersRow : OpenClaim := { program := "ytcogpedfnnfnaaa", sum := "7381496f8d713d19da95cafbc53f071cb27977d70926b30e08fcc9c7f6cec79a", func := "refuter/refuterlaw28.HistoryOrders", spec := "historyOrders", unfollowed := true, recurses := true, apart := false }
def HistoryOrdersSaid : Prop := historyOrdersRow.holds Try.pinned (OpenSpec.ofChange historyOrdersSpec)

/-- ITS FALSE NEIGHBOUR: 'it returns false'. Refute it at one input. -/
def historyOrdersWrong : ChangeSpec := { name := "historyOrders", fn := fun _ => fun
  | [d1, d2, d3, d4] => { results := [.lit (.bool false)], args := [d1, d2, d3, d4] }
  | _ => none }
def HistoryOrdersWrongFalsely : Prop := historyOrdersRow.holds Try.pinned (OpenSpec.ofChange historyOrdersWrong)

/-- 'refuterlaw28.HistoryTime': WHATEVER THE INPUT: true; the input reads as it did. -/
def historyTimeSpec : ChangeSpec := { name := "historyTime", fn := fun _ => fun
  | [d1, d2] => { results := [.lit (.bool true)], args := [d1, d2] }
  | _ => none }
def historyTimeRow : OpenClaim := { program := "ytcogpedfnnfnaaa", sum := "7381496f8d713d19da95cafbc53f071cb27977d70926b30e08fcc9c7f6cec79a", func := "refuter/refuterlaw28.HistoryTime", spec := "historyTime", unfollowed := true, recurses := true, apart := false }
def HistoryTimeSaid : Prop := historyTimeRow.holds Try.pinned (OpenSpec.ofChange historyTimeSpec)

/-- ITS FALSE NEIGHBOUR: 'it returns false'. Refute it at one input. -/
def historyTimeWrong : ChangeSpec := { name := "historyTime", fn := fun _ => fun
  | [d1, d2] => { results := [.lit (.bool false)], args := [d1, d2] }
  | _ => none }
def HistoryTimeWrongFalsely : Prop := historyTimeRow.holds Try.pinned (OpenSpec.ofChange historyTimeWrong)

/-- 'refuterlaw28.HistorySwaps': WHATEVER THE INPUT: true; the input reads as it did. -/
def historySwapsSpec : ChangeSpec := { name := "historySwaps", fn := fun _ => fun
  | [d] => { results := [.lit (.bool true)], args := [d] }
  | _ => none }
def historySwapsRow : OpenClaim := { program := "ytcogpedfnnfnaaa", sum := "7381496f8d713d19da95cafbc53f071cb27977d70926b30e08fcc9c7f6cec79a", func := "refuter/refuterlaw28.HistorySwaps", spec := "historySwaps", unfollowed := true, recurses := true, apart := false }
def HistorySwapsSaid : Prop := historySwapsRow.holds Try.pinned (OpenSpec.ofChange historySwapsSpec)

/-- ITS FALSE NEIGHBOUR: 'it returns false'. Refute it at one input. -/
def historySwapsWrong : ChangeSpec := { name := "historySwaps", fn := fun _ => fun
  | [d] => { results := [.lit (.bool false)], args := [d] }
  | _ => none }
def HistorySwapsWrongFalsely : Prop := historySwapsRow.holds Try.pinned (OpenSpec.ofChange historySwapsWrong)

/-- 'refuterlaw28.HistoryBytes': WHATEVER THE INPUT: true; the input reads as it did. -/
def historyBytesSpec : ChangeSpec := { name := "historyBytes", fn := fun _ => fun
  | [d1, d2, d3, d4, d5, d6, d7] => { results := [.lit (.bool true)], args := [d1, d2, d3, d4, d5, d6, d7] }
  | _ => none }
def historyBytesRow : OpenClaim := { program := "ytcogpedfnnfnaaa", sum := "7381496f8d713d19da95cafbc53f071cb27977d70926b30e08fcc9c7f6cec79a", func := "refuter/refuterlaw28.HistoryBytes", spec := "historyBytes", unfollowed := true, recurses := true, apart := false }
def HistoryBytesSaid : Prop := historyBytesRow.holds Try.pinned (OpenSpec.ofChange historyBytesSpec)

/-- ITS FALSE NEIGHBOUR: 'it returns false'. Refute it at one input. -/
def historyBytesWrong : ChangeSpec := { name := "historyBytes", fn := fun _ => fun
  | [d1, d2, d3, d4, d5, d6, d7] => { results := [.lit (.bool false)], args := [d1, d2, d3, d4, d5, d6, d7] }
  | _ => none }
def HistoryBytesWrongFalsely : Prop := historyBytesRow.holds Try.pinned (OpenSpec.ofChange historyBytesWrong)

/- THE SECOND FORM. 'bulk': how many values and letters a reading holds, each counted each time it is reached (what is shared counts as often as it is met; a slice's spare places count too). A statement '..UptoSaid' is the law's where the arguments, and the package variables that the reading takes, are together of bulk at most 1048576: NARROWER than '..Said'. Prove '..Said' where nothing that the law and all that it calls make is longer than what came in: it says more and counts as full. Else prove '..UptoSaid'. A law counts once. -/
mutual
def uptoBulk {H : Type} : DataW H → Nat
  | .lit (.string bytes) => bytes.length + 1
  | .lit _ => 1
  | .nil => 1
  | .ptr d => uptoBulk d + 1
  | .slice elems spare => uptoBulkAll elems + uptoBulkAll spare + 1
  | .agg parts => uptoBulkAll parts + 1
  | .iface _ d => uptoBulk d + 1
  | .map entries => uptoBulkEntries entries + 1
  | .held _ => 1
def uptoBulkAll {H : Type} : List (DataW H) → Nat
  | [] => 0
  | d :: r => uptoBulk d + uptoBulkAll r
def uptoBulkEntries {H : Type} : List (Lit × DataW H) → Nat
  | [] => 0
  | x :: r => uptoBulkEntry x + uptoBulkEntries r
def uptoBulkEntry {H : Type} : Lit × DataW H → Nat
  | (.string bytes, d) => bytes.length + uptoBulk d + 1
  | (_, d) => uptoBulk d + 1
 end
def uptoSmall : (H : Type) → List (DataW H) → Bool := fun _ ds => decide (uptoBulkAll ds ≤ 1048576)
def OpenSpec.upto (s : _root_.Go.ChangeSpec) : _root_.Go.OpenSpec := { _root_.Go.OpenSpec.ofChange s with cond := some uptoSmall }

/-- 'refuterlaw28.HistoryValid', WHERE WHAT IT READS IS OF BULK AT MOST 1048576: true; the input reads as it did. -/
def historyValidUptoRow : OpenClaim := { program := "ytcogpedfnnfnaaa", sum := "7381496f8d713d19da95cafbc53f071cb27977d70926b30e08fcc9c7f6cec79a", func := "refuter/refuterlaw28.HistoryValid", spec := "historyValid", unfollowed := true, recurses := true, apart := false, narrowed := true }
def HistoryValidUptoSaid : Prop := historyValidUptoRow.holds Try.pinned (OpenSpec.upto historyValidSpec)

/-- 'refuterlaw28.HistoryLimits', WHERE WHAT IT READS IS OF BULK AT MOST 1048576: true; the input reads as it did. -/
def historyLimitsUptoRow : OpenClaim := { program := "ytcogpedfnnfnaaa", sum := "7381496f8d713d19da95cafbc53f071cb27977d70926b30e08fcc9c7f6cec79a", func := "refuter/refuterlaw28.HistoryLimits", spec := "historyLimits", unfollowed := true, recurses := true, apart := false, narrowed := true }
def HistoryLimitsUptoSaid : Prop := historyLimitsUptoRow.holds Try.pinned (OpenSpec.upto historyLimitsSpec)

/-- 'refuterlaw28.HistoryPairs', WHERE WHAT IT READS IS OF BULK AT MOST 1048576: true; the input reads as it did. -/
def historyPairsUptoRow : OpenClaim := { program := "ytcogpedfnnfnaaa", sum := "7381496f8d713d19da95cafbc53f071cb27977d70926b30e08fcc9c7f6cec79a", func := "refuter/refuterlaw28.HistoryPairs", spec := "historyPairs", unfollowed := true, recurses := true, apart := false, narrowed := true }
def HistoryPairsUptoSaid : Prop := historyPairsUptoRow.holds Try.pinned (OpenSpec.upto historyPairsSpec)

/-- 'refuterlaw28.HistoryClients', WHERE WHAT IT READS IS OF BULK AT MOST 1048576: true; the input reads as it did. -/
def historyClientsUptoRow : OpenClaim := { program := "ytcogpedfnnfnaaa", sum := "7381496f8d713d19da95cafbc53f071cb27977d70926b30e08fcc9c7f6cec79a", func := "refuter/refuterlaw28.HistoryClients", spec := "historyClients", unfollowed := true, recurses := true, apart := false, narrowed := true }
def HistoryClientsUptoSaid : Prop := historyClientsUptoRow.holds Try.pinned (OpenSpec.upto historyClientsSpec)

/-- 'refuterlaw28.HistoryOrders', WHERE WHAT IT READS IS OF BULK AT MOST 1048576: true; the input reads as it did. -/
def historyOrdersUptoRow : OpenClaim := { program := "ytcogpedfnnfnaaa", sum := "7381496f8d713d19da95cafbc53f071cb27977d70926b30e08fcc9c7f6cec79a", func := "refuter/refuterlaw28.HistoryOrders", spec := "historyOrders", unfollowed := true, recurses := true, apart := false, narrowed := true }
def HistoryOrdersUptoSaid : Prop := historyOrdersUptoRow.holds Try.pinned (OpenSpec.upto historyOrdersSpec)

/-- 'refuterlaw28.HistoryTime', WHERE WHAT IT READS IS OF BULK AT MOST 1048576: true; the input reads as it did. -/
def historyTimeUptoRow : OpenClaim := { program := "ytcogpedfnnfnaaa", sum := "7381496f8d713d19da95cafbc53f071cb27977d70926b30e08fcc9c7f6cec79a", func := "refuter/refuterlaw28.HistoryTime", spec := "historyTime", unfollowed := true, recurses := true, apart := false, narrowed := true }
def HistoryTimeUptoSaid : Prop := historyTimeUptoRow.holds Try.pinned (OpenSpec.upto historyTimeSpec)

/-- 'refuterlaw28.HistorySwaps', WHERE WHAT IT READS IS OF BULK AT MOST 1048576: true; the input reads as it did. -/
def historySwapsUptoRow : OpenClaim := { program := "ytcogpedfnnfnaaa", sum := "7381496f8d713d19da95cafbc53f071cb27977d70926b30e08fcc9c7f6cec79a", func := "refuter/refuterlaw28.HistorySwaps", spec := "historySwaps", unfollowed := true, recurses := true, apart := false, narrowed := true }
def HistorySwapsUptoSaid : Prop := historySwapsUptoRow.holds Try.pinned (OpenSpec.upto historySwapsSpec)

/-- 'refuterlaw28.HistoryBytes', WHERE WHAT IT READS IS OF BULK AT MOST 1048576: true; the input reads as it did. -/
def historyBytesUptoRow : OpenClaim := { program := "ytcogpedfnnfnaaa", sum := "7381496f8d713d19da95cafbc53f071cb27977d70926b30e08fcc9c7f6cec79a", func := "refuter/refuterlaw28.HistoryBytes", spec := "historyBytes", unfollowed := true, recurses := true, apart := false, narrowed := true }
def HistoryBytesUptoSaid : Prop := historyBytesUptoRow.holds Try.pinned (OpenSpec.upto historyBytesSpec)

end Rows
end Go.Proofs.Ytcogpedfnnfnaaa
