/-
  No cell of these rows narrows 'for every input' (looked for: loops, veiled, ifaces, maps, wideKeys, modest, calm, conditions, laid).
  DERIVED. THE GIVEN ROWS OF THIS SEAT. 12 by the template 'for every input the law returns true; each argument reads behind the call as it read before'; 0 by the template 'total and deterministic' (their statements: YtmdlfpmkghkakaaTotals.lean).
  GIVEN WITH THE SEED: the statements are not yours to turn. If you find one false, say at which input.
  Laid BY PROGRAM, IN A SANDBOX (cutbox-rows.mjs): the forced cells as the released guide's own fill.sh prints them over the translation e8d90ef78cc34a56… (all of the seat's roots in one cut). By AI agents, Wed Nov 11 2026. No macro, syntax, notation, axiom, sorry.
-/
import Derived.Test.YtmdlfpmkghkakaaChecked
import GoSem.Claim
import GoSem.ClaimJoined
import GoSem.ClaimMapViews
import Derived.JoinedTies
import Derived.KernelRfl
namespace Go.Proofs.Ytmdlfpmkghkakaa
/- THE CELL 'sum', in the pinned program and in every row, IS THE sha256 OF THE DUMP (.gsa) THAT YtmdlfpmkghkakaaProg.lean LOADS. Nothing in Lean hashes anything: it is a label: what it is worth is what the hold of that sum in a sandbox is worth. -/
noncomputable def Try.pinned : Pinned := { name := "ytmdlfpmkghkakaa", sum := "e8d90ef78cc34a5665c8774585249c50d2e4eb4c88e591ef6a6dd9e6997b4b5c", checked := Try.checked }
namespace Rows
def none {H : Type} : Left H := { results := [], args := [] }

/-- 'laws.FnExactClashesIn': WHATEVER THE INPUT: true; the input reads as it did. -/
def fnExactClashesInSpec : ChangeSpec := { name := "fnExactClashesIn", fn := fun _ => fun
  | [d] => { results := [.lit (.bool true)], args := [d] }
  | _ => none }
def fnExactClashesInRow : OpenClaim := { program := "ytmdlfpmkghkakaa", sum := "e8d90ef78cc34a5665c8774585249c50d2e4eb4c88e591ef6a6dd9e6997b4b5c", func := "loop.example/g00825/laws.FnExactClashesIn", spec := "fnExactClashesIn", unfollowed := true, recurses := true, apart := false }
def FnExactClashesInSaid : Prop := fnExactClashesInRow.holds Try.pinned (OpenSpec.ofChange fnExactClashesInSpec)

/-- ITS FALSE NEIGHBOUR: 'it returns false'. Refute it at one input. -/
def fnExactClashesInWrong : ChangeSpec := { name := "fnExactClashesIn", fn := fun _ => fun
  | [d] => { results := [.lit (.bool false)], args := [d] }
  | _ => none }
def FnExactClashesInWrongFalsely : Prop := fnExactClashesInRow.holds Try.pinned (OpenSpec.ofChange fnExactClashesInWrong)

/-- 'laws.FnExactSwapSides': WHATEVER THE INPUT: true; the input reads as it did. -/
def fnExactSwapSidesSpec : ChangeSpec := { name := "fnExactSwapSides", fn := fun _ => fun
  | [d] => { results := [.lit (.bool true)], args := [d] }
  | _ => none }
def fnExactSwapSidesRow : OpenClaim := { program := "ytmdlfpmkghkakaa", sum := "e8d90ef78cc34a5665c8774585249c50d2e4eb4c88e591ef6a6dd9e6997b4b5c", func := "loop.example/g00825/laws.FnExactSwapSides", spec := "fnExactSwapSides", unfollowed := true, recurses := true, apart := false }
def FnExactSwapSidesSaid : Prop := fnExactSwapSidesRow.holds Try.pinned (OpenSpec.ofChange fnExactSwapSidesSpec)

/-- ITS FALSE NEIGHBOUR: 'it returns false'. Refute it at one input. -/
def fnExactSwapSidesWrong : ChangeSpec := { name := "fnExactSwapSides", fn := fun _ => fun
  | [d] => { results := [.lit (.bool false)], args := [d] }
  | _ => none }
def FnExactSwapSidesWrongFalsely : Prop := fnExactSwapSidesRow.holds Try.pinned (OpenSpec.ofChange fnExactSwapSidesWrong)

/-- 'laws.FnExactGoodOrders': WHATEVER THE INPUT: true; the input reads as it did. -/
def fnExactGoodOrdersSpec : ChangeSpec := { name := "fnExactGoodOrders", fn := fun _ => fun
  | [d] => { results := [.lit (.bool true)], args := [d] }
  | _ => none }
def fnExactGoodOrdersRow : OpenClaim := { program := "ytmdlfpmkghkakaa", sum := "e8d90ef78cc34a5665c8774585249c50d2e4eb4c88e591ef6a6dd9e6997b4b5c", func := "loop.example/g00825/laws.FnExactGoodOrders", spec := "fnExactGoodOrders", inPlace := ["internal/bytealg.IndexByteString", "internal/bytealg.IndexString"], unfollowed := true, recurses := true, named := ["internal/bytealg.MaxLen"], apart := false }
def FnExactGoodOrdersSaid : Prop := fnExactGoodOrdersRow.holds Try.pinned (OpenSpec.ofChange fnExactGoodOrdersSpec)

/-- ITS FALSE NEIGHBOUR: 'it returns false'. Refute it at one input. -/
def fnExactGoodOrdersWrong : ChangeSpec := { name := "fnExactGoodOrders", fn := fun _ => fun
  | [d] => { results := [.lit (.bool false)], args := [d] }
  | _ => none }
def FnExactGoodOrdersWrongFalsely : Prop := fnExactGoodOrdersRow.holds Try.pinned (OpenSpec.ofChange fnExactGoodOrdersWrong)

/-- 'laws.FnExactGoodParts': WHATEVER THE INPUT: true; the input reads as it did. -/
def fnExactGoodPartsSpec : ChangeSpec := { name := "fnExactGoodParts", fn := fun _ => fun
  | [d1, d2] => { results := [.lit (.bool true)], args := [d1, d2] }
  | _ => none }
def fnExactGoodPartsRow : OpenClaim := { program := "ytmdlfpmkghkakaa", sum := "e8d90ef78cc34a5665c8774585249c50d2e4eb4c88e591ef6a6dd9e6997b4b5c", func := "loop.example/g00825/laws.FnExactGoodParts", spec := "fnExactGoodParts", inPlace := ["internal/bytealg.IndexByteString", "internal/bytealg.IndexString"], unfollowed := true, recurses := true, named := ["internal/bytealg.MaxLen"], apart := false }
def FnExactGoodPartsSaid : Prop := fnExactGoodPartsRow.holds Try.pinned (OpenSpec.ofChange fnExactGoodPartsSpec)

/-- ITS FALSE NEIGHBOUR: 'it returns false'. Refute it at one input. -/
def fnExactGoodPartsWrong : ChangeSpec := { name := "fnExactGoodParts", fn := fun _ => fun
  | [d1, d2] => { results := [.lit (.bool false)], args := [d1, d2] }
  | _ => none }
def FnExactGoodPartsWrongFalsely : Prop := fnExactGoodPartsRow.holds Try.pinned (OpenSpec.ofChange fnExactGoodPartsWrong)

/-- 'laws.FnExactChurnOf': WHATEVER THE INPUT: true; the input reads as it did. -/
def fnExactChurnOfSpec : ChangeSpec := { name := "fnExactChurnOf", fn := fun _ => fun
  | [d] => { results := [.lit (.bool true)], args := [d] }
  | _ => none }
def fnExactChurnOfRow : OpenClaim := { program := "ytmdlfpmkghkakaa", sum := "e8d90ef78cc34a5665c8774585249c50d2e4eb4c88e591ef6a6dd9e6997b4b5c", func := "loop.example/g00825/laws.FnExactChurnOf", spec := "fnExactChurnOf", inPlace := ["internal/bytealg.IndexByteString", "internal/bytealg.IndexString"], unfollowed := true, recurses := true, named := ["internal/bytealg.MaxLen"], apart := false }
def FnExactChurnOfSaid : Prop := fnExactChurnOfRow.holds Try.pinned (OpenSpec.ofChange fnExactChurnOfSpec)

/-- ITS FALSE NEIGHBOUR: 'it returns false'. Refute it at one input. -/
def fnExactChurnOfWrong : ChangeSpec := { name := "fnExactChurnOf", fn := fun _ => fun
  | [d] => { results := [.lit (.bool false)], args := [d] }
  | _ => none }
def FnExactChurnOfWrongFalsely : Prop := fnExactChurnOfRow.holds Try.pinned (OpenSpec.ofChange fnExactChurnOfWrong)

/-- 'laws.FnExactHalfText': WHATEVER THE INPUT: true; the input reads as it did. -/
def fnExactHalfTextSpec : ChangeSpec := { name := "fnExactHalfText", fn := fun _ => fun
  | [d1, d2] => { results := [.lit (.bool true)], args := [d1, d2] }
  | _ => none }
def fnExactHalfTextRow : OpenClaim := { program := "ytmdlfpmkghkakaa", sum := "e8d90ef78cc34a5665c8774585249c50d2e4eb4c88e591ef6a6dd9e6997b4b5c", func := "loop.example/g00825/laws.FnExactHalfText", spec := "fnExactHalfText", inPlace := ["internal/bytealg.IndexByteString", "internal/bytealg.IndexString"], unfollowed := true, recurses := true, named := ["internal/bytealg.MaxLen"], apart := false }
def FnExactHalfTextSaid : Prop := fnExactHalfTextRow.holds Try.pinned (OpenSpec.ofChange fnExactHalfTextSpec)

/-- ITS FALSE NEIGHBOUR: 'it returns false'. Refute it at one input. -/
def fnExactHalfTextWrong : ChangeSpec := { name := "fnExactHalfText", fn := fun _ => fun
  | [d1, d2] => { results := [.lit (.bool false)], args := [d1, d2] }
  | _ => none }
def FnExactHalfTextWrongFalsely : Prop := fnExactHalfTextRow.holds Try.pinned (OpenSpec.ofChange fnExactHalfTextWrong)

/-- 'laws.FnExactGoodSeries': WHATEVER THE INPUT: true; the input reads as it did. -/
def fnExactGoodSeriesSpec : ChangeSpec := { name := "fnExactGoodSeries", fn := fun _ => fun
  | [d] => { results := [.lit (.bool true)], args := [d] }
  | _ => none }
def fnExactGoodSeriesRow : OpenClaim := { program := "ytmdlfpmkghkakaa", sum := "e8d90ef78cc34a5665c8774585249c50d2e4eb4c88e591ef6a6dd9e6997b4b5c", func := "loop.example/g00825/laws.FnExactGoodSeries", spec := "fnExactGoodSeries", inPlace := ["internal/bytealg.IndexByteString", "internal/bytealg.IndexString"], unfollowed := true, recurses := true, named := ["internal/bytealg.MaxLen"], apart := false }
def FnExactGoodSeriesSaid : Prop := fnExactGoodSeriesRow.holds Try.pinned (OpenSpec.ofChange fnExactGoodSeriesSpec)

/-- ITS FALSE NEIGHBOUR: 'it returns false'. Refute it at one input. -/
def fnExactGoodSeriesWrong : ChangeSpec := { name := "fnExactGoodSeries", fn := fun _ => fun
  | [d] => { results := [.lit (.bool false)], args := [d] }
  | _ => none }
def FnExactGoodSeriesWrongFalsely : Prop := fnExactGoodSeriesRow.holds Try.pinned (OpenSpec.ofChange fnExactGoodSeriesWrong)

/-- 'laws.FnExactTakeSide': WHATEVER THE INPUT: true; the input reads as it did. -/
def fnExactTakeSideSpec : ChangeSpec := { name := "fnExactTakeSide", fn := fun _ => fun
  | [d1, d2, d3] => { results := [.lit (.bool true)], args := [d1, d2, d3] }
  | _ => none }
def fnExactTakeSideRow : OpenClaim := { program := "ytmdlfpmkghkakaa", sum := "e8d90ef78cc34a5665c8774585249c50d2e4eb4c88e591ef6a6dd9e6997b4b5c", func := "loop.example/g00825/laws.FnExactTakeSide", spec := "fnExactTakeSide", inPlace := ["internal/bytealg.IndexByteString", "internal/bytealg.IndexString"], unfollowed := true, recurses := true, named := ["internal/bytealg.MaxLen"], apart := false }
def FnExactTakeSideSaid : Prop := fnExactTakeSideRow.holds Try.pinned (OpenSpec.ofChange fnExactTakeSideSpec)

/-- ITS FALSE NEIGHBOUR: 'it returns false'. Refute it at one input. -/
def fnExactTakeSideWrong : ChangeSpec := { name := "fnExactTakeSide", fn := fun _ => fun
  | [d1, d2, d3] => { results := [.lit (.bool false)], args := [d1, d2, d3] }
  | _ => none }
def FnExactTakeSideWrongFalsely : Prop := fnExactTakeSideRow.holds Try.pinned (OpenSpec.ofChange fnExactTakeSideWrong)

/-- 'laws.FnExactSizeOf': WHATEVER THE INPUT: true; the input reads as it did. -/
def fnExactSizeOfSpec : ChangeSpec := { name := "fnExactSizeOf", fn := fun _ => fun
  | [d] => { results := [.lit (.bool true)], args := [d] }
  | _ => none }
def fnExactSizeOfRow : OpenClaim := { program := "ytmdlfpmkghkakaa", sum := "e8d90ef78cc34a5665c8774585249c50d2e4eb4c88e591ef6a6dd9e6997b4b5c", func := "loop.example/g00825/laws.FnExactSizeOf", spec := "fnExactSizeOf", inPlace := ["internal/bytealg.IndexByteString", "internal/bytealg.IndexString"], unfollowed := true, recurses := true, named := ["internal/bytealg.MaxLen"], apart := false }
def FnExactSizeOfSaid : Prop := fnExactSizeOfRow.holds Try.pinned (OpenSpec.ofChange fnExactSizeOfSpec)

/-- ITS FALSE NEIGHBOUR: 'it returns false'. Refute it at one input. -/
def fnExactSizeOfWrong : ChangeSpec := { name := "fnExactSizeOf", fn := fun _ => fun
  | [d] => { results := [.lit (.bool false)], args := [d] }
  | _ => none }
def FnExactSizeOfWrongFalsely : Prop := fnExactSizeOfRow.holds Try.pinned (OpenSpec.ofChange fnExactSizeOfWrong)

/-- 'laws.FnExactTraceLine': WHATEVER THE INPUT: true; the input reads as it did. -/
def fnExactTraceLineSpec : ChangeSpec := { name := "fnExactTraceLine", fn := fun _ => fun
  | [d1, d2, d3] => { results := [.lit (.bool true)], args := [d1, d2, d3] }
  | _ => none }
def fnExactTraceLineRow : OpenClaim := { program := "ytmdlfpmkghkakaa", sum := "e8d90ef78cc34a5665c8774585249c50d2e4eb4c88e591ef6a6dd9e6997b4b5c", func := "loop.example/g00825/laws.FnExactTraceLine", spec := "fnExactTraceLine", inPlace := ["internal/bytealg.IndexByteString", "internal/bytealg.IndexString"], unfollowed := true, recurses := true, named := ["internal/bytealg.MaxLen"], apart := false }
def FnExactTraceLineSaid : Prop := fnExactTraceLineRow.holds Try.pinned (OpenSpec.ofChange fnExactTraceLineSpec)

/-- ITS FALSE NEIGHBOUR: 'it returns false'. Refute it at one input. -/
def fnExactTraceLineWrong : ChangeSpec := { name := "fnExactTraceLine", fn := fun _ => fun
  | [d1, d2, d3] => { results := [.lit (.bool false)], args := [d1, d2, d3] }
  | _ => none }
def FnExactTraceLineWrongFalsely : Prop := fnExactTraceLineRow.holds Try.pinned (OpenSpec.ofChange fnExactTraceLineWrong)

/-- 'laws.FnExactSinceOf': WHATEVER THE INPUT: true; the input reads as it did. -/
def fnExactSinceOfSpec : ChangeSpec := { name := "fnExactSinceOf", fn := fun _ => fun
  | [d] => { results := [.lit (.bool true)], args := [d] }
  | _ => none }
def fnExactSinceOfRow : OpenClaim := { program := "ytmdlfpmkghkakaa", sum := "e8d90ef78cc34a5665c8774585249c50d2e4eb4c88e591ef6a6dd9e6997b4b5c", func := "loop.example/g00825/laws.FnExactSinceOf", spec := "fnExactSinceOf", inPlace := ["internal/bytealg.IndexByteString", "internal/bytealg.IndexString"], unfollowed := true, recurses := true, named := ["internal/bytealg.MaxLen"], apart := false }
def FnExactSinceOfSaid : Prop := fnExactSinceOfRow.holds Try.pinned (OpenSpec.ofChange fnExactSinceOfSpec)

/-- ITS FALSE NEIGHBOUR: 'it returns false'. Refute it at one input. -/
def fnExactSinceOfWrong : ChangeSpec := { name := "fnExactSinceOf", fn := fun _ => fun
  | [d] => { results := [.lit (.bool false)], args := [d] }
  | _ => none }
def FnExactSinceOfWrongFalsely : Prop := fnExactSinceOfRow.holds Try.pinned (OpenSpec.ofChange fnExactSinceOfWrong)

/-- 'laws.FnExactLinesSince': WHATEVER THE INPUT: true; the input reads as it did. -/
def fnExactLinesSinceSpec : ChangeSpec := { name := "fnExactLinesSince", fn := fun _ => fun
  | [d1, d2] => { results := [.lit (.bool true)], args := [d1, d2] }
  | _ => none }
def fnExactLinesSinceRow : OpenClaim := { program := "ytmdlfpmkghkakaa", sum := "e8d90ef78cc34a5665c8774585249c50d2e4eb4c88e591ef6a6dd9e6997b4b5c", func := "loop.example/g00825/laws.FnExactLinesSince", spec := "fnExactLinesSince", inPlace := ["internal/bytealg.IndexByteString", "internal/bytealg.IndexString"], unfollowed := true, recurses := true, named := ["internal/bytealg.MaxLen"], apart := false }
def FnExactLinesSinceSaid : Prop := fnExactLinesSinceRow.holds Try.pinned (OpenSpec.ofChange fnExactLinesSinceSpec)

/-- ITS FALSE NEIGHBOUR: 'it returns false'. Refute it at one input. -/
def fnExactLinesSinceWrong : ChangeSpec := { name := "fnExactLinesSince", fn := fun _ => fun
  | [d1, d2] => { results := [.lit (.bool false)], args := [d1, d2] }
  | _ => none }
def FnExactLinesSinceWrongFalsely : Prop := fnExactLinesSinceRow.holds Try.pinned (OpenSpec.ofChange fnExactLinesSinceWrong)

/- THE SECOND FORM. 'bulk': how many values and letters a reading holds, each counted each time it is reached (what is shared counts as often as it is met; a slice's spare places count too). A statement '..UptoSaid' is the law's where the arguments, and the package variables that the reading takes, are together of bulk at most 1048576: NARROWER than '..Said'. Prove '..Said' where nothing that the law and all that it calls make is longer than what came in: it says more and counts as full. Else prove '..UptoSaid'. A law counts once. -/
mutual
def uptoBulk {H : Type} : DataW H → Nat
  | .lit (.string bytes) => bytes.length + 1
  | .lit _ => 1
  | .nil => 1
  | .ptr d => uptoBulk d + 1
  | .slice elems spare => uptoBulkAll elems + uptoBulkAll spare + 1
  | .agg parts => uptoBulkAll parts + 1
  | .iface _ d => uptoBulk d + 1
  | .map entries => uptoBulkEntries entries + 1
  | .held _ => 1
def uptoBulkAll {H : Type} : List (DataW H) → Nat
  | [] => 0
  | d :: r => uptoBulk d + uptoBulkAll r
def uptoBulkEntries {H : Type} : List (Lit × DataW H) → Nat
  | [] => 0
  | x :: r => uptoBulkEntry x + uptoBulkEntries r
def uptoBulkEntry {H : Type} : Lit × DataW H → Nat
  | (.string bytes, d) => bytes.length + uptoBulk d + 1
  | (_, d) => uptoBulk d + 1
 end
def uptoSmall : (H : Type) → List (DataW H) → Bool := fun _ ds => decide (uptoBulkAll ds ≤ 1048576)
def OpenSpec.upto (s : _root_.Go.ChangeSpec) : _root_.Go.OpenSpec := { _root_.Go.OpenSpec.ofChange s with cond := some uptoSmall }

/-- 'laws.FnExactClashesIn', WHERE WHAT IT READS IS OF BULK AT MOST 1048576: true; the input reads as it did. -/
def fnExactClashesInUptoRow : OpenClaim := { program := "ytmdlfpmkghkakaa", sum := "e8d90ef78cc34a5665c8774585249c50d2e4eb4c88e591ef6a6dd9e6997b4b5c", func := "loop.example/g00825/laws.FnExactClashesIn", spec := "fnExactClashesIn", unfollowed := true, recurses := true, apart := false, narrowed := true }
def FnExactClashesInUptoSaid : Prop := fnExactClashesInUptoRow.holds Try.pinned (OpenSpec.upto fnExactClashesInSpec)

/-- 'laws.FnExactSwapSides', WHERE WHAT IT READS IS OF BULK AT MOST 1048576: true; the input reads as it did. -/
def fnExactSwapSidesUptoRow : OpenClaim := { program := "ytmdlfpmkghkakaa", sum := "e8d90ef78cc34a5665c8774585249c50d2e4eb4c88e591ef6a6dd9e6997b4b5c", func := "loop.example/g00825/laws.FnExactSwapSides", spec := "fnExactSwapSides", unfollowed := true, recurses := true, apart := false, narrowed := true }
def FnExactSwapSidesUptoSaid : Prop := fnExactSwapSidesUptoRow.holds Try.pinned (OpenSpec.upto fnExactSwapSidesSpec)

/-- 'laws.FnExactGoodOrders', WHERE WHAT IT READS IS OF BULK AT MOST 1048576: true; the input reads as it did. -/
def fnExactGoodOrdersUptoRow : OpenClaim := { program := "ytmdlfpmkghkakaa", sum := "e8d90ef78cc34a5665c8774585249c50d2e4eb4c88e591ef6a6dd9e6997b4b5c", func := "loop.example/g00825/laws.FnExactGoodOrders", spec := "fnExactGoodOrders", inPlace := ["internal/bytealg.IndexByteString", "internal/bytealg.IndexString"], unfollowed := true, recurses := true, named := ["internal/bytealg.MaxLen"], apart := false, narrowed := true }
def FnExactGoodOrdersUptoSaid : Prop := fnExactGoodOrdersUptoRow.holds Try.pinned (OpenSpec.upto fnExactGoodOrdersSpec)

/-- 'laws.FnExactGoodParts', WHERE WHAT IT READS IS OF BULK AT MOST 1048576: true; the input reads as it did. -/
def fnExactGoodPartsUptoRow : OpenClaim := { program := "ytmdlfpmkghkakaa", sum := "e8d90ef78cc34a5665c8774585249c50d2e4eb4c88e591ef6a6dd9e6997b4b5c", func := "loop.example/g00825/laws.FnExactGoodParts", spec := "fnExactGoodParts", inPlace := ["internal/bytealg.IndexByteString", "internal/bytealg.IndexString"], unfollowed := true, recurses := true, named := ["internal/bytealg.MaxLen"], apart := false, narrowed := true }
def FnExactGoodPartsUptoSaid : Prop := fnExactGoodPartsUptoRow.holds Try.pinned (OpenSpec.upto fnExactGoodPartsSpec)

/-- 'laws.FnExactChurnOf', WHERE WHAT IT READS IS OF BULK AT MOST 1048576: true; the input reads as it did. -/
def fnExactChurnOfUptoRow : OpenClaim := { program := "ytmdlfpmkghkakaa", sum := "e8d90ef78cc34a5665c8774585249c50d2e4eb4c88e591ef6a6dd9e6997b4b5c", func := "loop.example/g00825/laws.FnExactChurnOf", spec := "fnExactChurnOf", inPlace := ["internal/bytealg.IndexByteString", "internal/bytealg.IndexString"], unfollowed := true, recurses := true, named := ["internal/bytealg.MaxLen"], apart := false, narrowed := true }
def FnExactChurnOfUptoSaid : Prop := fnExactChurnOfUptoRow.holds Try.pinned (OpenSpec.upto fnExactChurnOfSpec)

/-- 'laws.FnExactHalfText', WHERE WHAT IT READS IS OF BULK AT MOST 1048576: true; the input reads as it did. -/
def fnExactHalfTextUptoRow : OpenClaim := { program := "ytmdlfpmkghkakaa", sum := "e8d90ef78cc34a5665c8774585249c50d2e4eb4c88e591ef6a6dd9e6997b4b5c", func := "loop.example/g00825/laws.FnExactHalfText", spec := "fnExactHalfText", inPlace := ["internal/bytealg.IndexByteString", "internal/bytealg.IndexString"], unfollowed := true, recurses := true, named := ["internal/bytealg.MaxLen"], apart := false, narrowed := true }
def FnExactHalfTextUptoSaid : Prop := fnExactHalfTextUptoRow.holds Try.pinned (OpenSpec.upto fnExactHalfTextSpec)

/-- 'laws.FnExactGoodSeries', WHERE WHAT IT READS IS OF BULK AT MOST 1048576: true; the input reads as it did. -/
def fnExactGoodSeriesUptoRow : OpenClaim := { program := "ytmdlfpmkghkakaa", sum := "e8d90ef78cc34a5665c8774585249c50d2e4eb4c88e591ef6a6dd9e6997b4b5c", func := "loop.example/g00825/laws.FnExactGoodSeries", spec := "fnExactGoodSeries", inPlace := ["internal/bytealg.IndexByteString", "internal/bytealg.IndexString"], unfollowed := true, recurses := true, named := ["internal/bytealg.MaxLen"], apart := false, narrowed := true }
def FnExactGoodSeriesUptoSaid : Prop := fnExactGoodSeriesUptoRow.holds Try.pinned (OpenSpec.upto fnExactGoodSeriesSpec)

/-- 'laws.FnExactTakeSide', WHERE WHAT IT READS IS OF BULK AT MOST 1048576: true; the input reads as it did. -/
def fnExactTakeSideUptoRow : OpenClaim := { program := "ytmdlfpmkghkakaa", sum := "e8d90ef78cc34a5665c8774585249c50d2e4eb4c88e591ef6a6dd9e6997b4b5c", func := "loop.example/g00825/laws.FnExactTakeSide", spec := "fnExactTakeSide", inPlace := ["internal/bytealg.IndexByteString", "internal/bytealg.IndexString"], unfollowed := true, recurses := true, named := ["internal/bytealg.MaxLen"], apart := false, narrowed := true }
def FnExactTakeSideUptoSaid : Prop := fnExactTakeSideUptoRow.holds Try.pinned (OpenSpec.upto fnExactTakeSideSpec)

/-- 'laws.FnExactSizeOf', WHERE WHAT IT READS IS OF BULK AT MOST 1048576: true; the input reads as it did. -/
def fnExactSizeOfUptoRow : OpenClaim := { program := "ytmdlfpmkghkakaa", sum := "e8d90ef78cc34a5665c8774585249c50d2e4eb4c88e591ef6a6dd9e6997b4b5c", func := "loop.example/g00825/laws.FnExactSizeOf", spec := "fnExactSizeOf", inPlace := ["internal/bytealg.IndexByteString", "internal/bytealg.IndexString"], unfollowed := true, recurses := true, named := ["internal/bytealg.MaxLen"], apart := false, narrowed := true }
def FnExactSizeOfUptoSaid : Prop := fnExactSizeOfUptoRow.holds Try.pinned (OpenSpec.upto fnExactSizeOfSpec)

/-- 'laws.FnExactTraceLine', WHERE WHAT IT READS IS OF BULK AT MOST 1048576: true; the input reads as it did. -/
def fnExactTraceLineUptoRow : OpenClaim := { program := "ytmdlfpmkghkakaa", sum := "e8d90ef78cc34a5665c8774585249c50d2e4eb4c88e591ef6a6dd9e6997b4b5c", func := "loop.example/g00825/laws.FnExactTraceLine", spec := "fnExactTraceLine", inPlace := ["internal/bytealg.IndexByteString", "internal/bytealg.IndexString"], unfollowed := true, recurses := true, named := ["internal/bytealg.MaxLen"], apart := false, narrowed := true }
def FnExactTraceLineUptoSaid : Prop := fnExactTraceLineUptoRow.holds Try.pinned (OpenSpec.upto fnExactTraceLineSpec)

/-- 'laws.FnExactSinceOf', WHERE WHAT IT READS IS OF BULK AT MOST 1048576: true; the input reads as it did. -/
def fnExactSinceOfUptoRow : OpenClaim := { program := "ytmdlfpmkghkakaa", sum := "e8d90ef78cc34a5665c8774585249c50d2e4eb4c88e591ef6a6dd9e6997b4b5c", func := "loop.example/g00825/laws.FnExactSinceOf", spec := "fnExactSinceOf", inPlace := ["internal/bytealg.IndexByteString", "internal/bytealg.IndexString"], unfollowed := true, recurses := true, named := ["internal/bytealg.MaxLen"], apart := false, narrowed := true }
def FnExactSinceOfUptoSaid : Prop := fnExactSinceOfUptoRow.holds Try.pinned (OpenSpec.upto fnExactSinceOfSpec)

/-- 'laws.FnExactLinesSince', WHERE WHAT IT READS IS OF BULK AT MOST 1048576: true; the input reads as it did. -/
def fnExactLinesSinceUptoRow : OpenClaim := { program := "ytmdlfpmkghkakaa", sum := "e8d90ef78cc34a5665c8774585249c50d2e4eb4c88e591ef6a6dd9e6997b4b5c", func := "loop.example/g00825/laws.FnExactLinesSince", spec := "fnExactLinesSince", inPlace := ["internal/bytealg.IndexByteString", "internal/bytealg.IndexString"], unfollowed := true, recurses := true, named := ["internal/bytealg.MaxLen"], apart := false, narrowed := true }
def FnExactLinesSinceUptoSaid : Prop := fnExactLinesSinceUptoRow.holds Try.pinned (OpenSpec.upto fnExactLinesSinceSpec)

end Rows
end Go.Proofs.Ytmdlfpmkghkakaa
