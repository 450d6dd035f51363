/-
  No cell of these rows narrows 'for every input' (looked for: loops, veiled, ifaces, maps, wideKeys, modest, calm, conditions, laid).
  DERIVED. THE GIVEN ROWS OF THIS SEAT. 11 by the template 'for every input the law returns true; each argument reads behind the call as it read before'; 0 by the template 'total and deterministic' (their statements: YthcnbokoghjkjaaTotals.lean).
  GIVEN WITH THE SEED: the statements are not yours to turn. If you find one false, say at which input.
  Laid BY PROGRAM, IN A SANDBOX (cutbox-rows.mjs): the forced cells as the released guide's own fill.sh prints them over the translation d163699252a70965… (all of the seat's roots in one cut). By AI agents, Wed Nov 11 2026. No macro, syntax, notation, axiom, sorry.
-/
import Derived.Test.YthcnbokoghjkjaaChecked
import GoSem.Claim
import GoSem.ClaimJoined
import GoSem.ClaimMapViews
import Derived.JoinedTies
import Derived.KernelRfl
namespace Go.Proofs.Ythcnbokoghjkjaa
/- THE CELL 'sum', in the pinned program and in every row, IS THE sha256 OF THE DUMP (.gsa) THAT YthcnbokoghjkjaaProg.lean LOADS. Nothing in Lean hashes anything: it is a label: what it is worth is what the hold of that sum in a sandbox is worth. -/
noncomputable def Try.pinned : Pinned := { name := "ythcnbokoghjkjaa", sum := "d163699252a70965b20d6a83be795df943d51f511118f9cc7ad58e38318fc5ad", checked := Try.checked }
namespace Rows
def none {H : Type} : Left H := { results := [], args := [] }

/-- 'laws.FnExactBackGroups': WHATEVER THE INPUT: true; the input reads as it did. -/
def fnExactBackGroupsSpec : ChangeSpec := { name := "fnExactBackGroups", fn := fun _ => fun
  | [d] => { results := [.lit (.bool true)], args := [d] }
  | _ => none }
def fnExactBackGroupsRow : OpenClaim := { program := "ythcnbokoghjkjaa", sum := "d163699252a70965b20d6a83be795df943d51f511118f9cc7ad58e38318fc5ad", func := "loop.example/g00825/laws.FnExactBackGroups", spec := "fnExactBackGroups", inPlace := ["internal/bytealg.IndexByteString", "internal/bytealg.IndexString"], unfollowed := true, recurses := true, named := ["internal/bytealg.MaxLen"], apart := false }
def FnExactBackGroupsSaid : Prop := fnExactBackGroupsRow.holds Try.pinned (OpenSpec.ofChange fnExactBackGroupsSpec)

/-- ITS FALSE NEIGHBOUR: 'it returns false'. Refute it at one input. -/
def fnExactBackGroupsWrong : ChangeSpec := { name := "fnExactBackGroups", fn := fun _ => fun
  | [d] => { results := [.lit (.bool false)], args := [d] }
  | _ => none }
def FnExactBackGroupsWrongFalsely : Prop := fnExactBackGroupsRow.holds Try.pinned (OpenSpec.ofChange fnExactBackGroupsWrong)

/-- 'laws.FnExactCanSwap': WHATEVER THE INPUT: true; the input reads as it did. -/
def fnExactCanSwapSpec : ChangeSpec := { name := "fnExactCanSwap", fn := fun _ => fun
  | [d1, d2, d3] => { results := [.lit (.bool true)], args := [d1, d2, d3] }
  | _ => none }
def fnExactCanSwapRow : OpenClaim := { program := "ythcnbokoghjkjaa", sum := "d163699252a70965b20d6a83be795df943d51f511118f9cc7ad58e38318fc5ad", func := "loop.example/g00825/laws.FnExactCanSwap", spec := "fnExactCanSwap", inPlace := ["internal/bytealg.IndexByteString", "internal/bytealg.IndexString"], unfollowed := true, recurses := true, named := ["internal/bytealg.MaxLen"], apart := false }
def FnExactCanSwapSaid : Prop := fnExactCanSwapRow.holds Try.pinned (OpenSpec.ofChange fnExactCanSwapSpec)

/-- ITS FALSE NEIGHBOUR: 'it returns false'. Refute it at one input. -/
def fnExactCanSwapWrong : ChangeSpec := { name := "fnExactCanSwap", fn := fun _ => fun
  | [d1, d2, d3] => { results := [.lit (.bool false)], args := [d1, d2, d3] }
  | _ => none }
def FnExactCanSwapWrongFalsely : Prop := fnExactCanSwapRow.holds Try.pinned (OpenSpec.ofChange fnExactCanSwapWrong)

/-- 'laws.FnExactTextAt': WHATEVER THE INPUT: true; the input reads as it did. -/
def fnExactTextAtSpec : ChangeSpec := { name := "fnExactTextAt", fn := fun _ => fun
  | [d1, d2] => { results := [.lit (.bool true)], args := [d1, d2] }
  | _ => none }
def fnExactTextAtRow : OpenClaim := { program := "ythcnbokoghjkjaa", sum := "d163699252a70965b20d6a83be795df943d51f511118f9cc7ad58e38318fc5ad", func := "loop.example/g00825/laws.FnExactTextAt", spec := "fnExactTextAt", inPlace := ["internal/bytealg.IndexByteString", "internal/bytealg.IndexString"], unfollowed := true, recurses := true, named := ["internal/bytealg.MaxLen"], apart := false }
def FnExactTextAtSaid : Prop := fnExactTextAtRow.holds Try.pinned (OpenSpec.ofChange fnExactTextAtSpec)

/-- ITS FALSE NEIGHBOUR: 'it returns false'. Refute it at one input. -/
def fnExactTextAtWrong : ChangeSpec := { name := "fnExactTextAt", fn := fun _ => fun
  | [d1, d2] => { results := [.lit (.bool false)], args := [d1, d2] }
  | _ => none }
def FnExactTextAtWrongFalsely : Prop := fnExactTextAtRow.holds Try.pinned (OpenSpec.ofChange fnExactTextAtWrong)

/-- 'laws.FnExactMoveHunks': WHATEVER THE INPUT: true; the input reads as it did. -/
def fnExactMoveHunksSpec : ChangeSpec := { name := "fnExactMoveHunks", fn := fun _ => fun
  | [d1, d2, d3] => { results := [.lit (.bool true)], args := [d1, d2, d3] }
  | _ => none }
def fnExactMoveHunksRow : OpenClaim := { program := "ythcnbokoghjkjaa", sum := "d163699252a70965b20d6a83be795df943d51f511118f9cc7ad58e38318fc5ad", func := "loop.example/g00825/laws.FnExactMoveHunks", spec := "fnExactMoveHunks", inPlace := ["internal/bytealg.IndexByteString", "internal/bytealg.IndexString"], unfollowed := true, recurses := true, named := ["internal/bytealg.MaxLen"], apart := false }
def FnExactMoveHunksSaid : Prop := fnExactMoveHunksRow.holds Try.pinned (OpenSpec.ofChange fnExactMoveHunksSpec)

/-- ITS FALSE NEIGHBOUR: 'it returns false'. Refute it at one input. -/
def fnExactMoveHunksWrong : ChangeSpec := { name := "fnExactMoveHunks", fn := fun _ => fun
  | [d1, d2, d3] => { results := [.lit (.bool false)], args := [d1, d2, d3] }
  | _ => none }
def FnExactMoveHunksWrongFalsely : Prop := fnExactMoveHunksRow.holds Try.pinned (OpenSpec.ofChange fnExactMoveHunksWrong)

/-- 'laws.FnExactTillOf': WHATEVER THE INPUT: true; the input reads as it did. -/
def fnExactTillOfSpec : ChangeSpec := { name := "fnExactTillOf", fn := fun _ => fun
  | [d] => { results := [.lit (.bool true)], args := [d] }
  | _ => none }
def fnExactTillOfRow : OpenClaim := { program := "ythcnbokoghjkjaa", sum := "d163699252a70965b20d6a83be795df943d51f511118f9cc7ad58e38318fc5ad", func := "loop.example/g00825/laws.FnExactTillOf", spec := "fnExactTillOf", inPlace := ["internal/bytealg.IndexByteString", "internal/bytealg.IndexString"], unfollowed := true, recurses := true, named := ["internal/bytealg.MaxLen"], apart := false }
def FnExactTillOfSaid : Prop := fnExactTillOfRow.holds Try.pinned (OpenSpec.ofChange fnExactTillOfSpec)

/-- ITS FALSE NEIGHBOUR: 'it returns false'. Refute it at one input. -/
def fnExactTillOfWrong : ChangeSpec := { name := "fnExactTillOf", fn := fun _ => fun
  | [d] => { results := [.lit (.bool false)], args := [d] }
  | _ => none }
def FnExactTillOfWrongFalsely : Prop := fnExactTillOfRow.holds Try.pinned (OpenSpec.ofChange fnExactTillOfWrong)

/-- 'laws.FnExactEdOrders': WHATEVER THE INPUT: true; the input reads as it did. -/
def fnExactEdOrdersSpec : ChangeSpec := { name := "fnExactEdOrders", fn := fun _ => fun
  | [d1, d2] => { results := [.lit (.bool true)], args := [d1, d2] }
  | _ => none }
def fnExactEdOrdersRow : OpenClaim := { program := "ythcnbokoghjkjaa", sum := "d163699252a70965b20d6a83be795df943d51f511118f9cc7ad58e38318fc5ad", func := "loop.example/g00825/laws.FnExactEdOrders", spec := "fnExactEdOrders", inPlace := ["internal/bytealg.IndexByteString", "internal/bytealg.IndexString"], unfollowed := true, recurses := true, named := ["internal/bytealg.MaxLen"], apart := false }
def FnExactEdOrdersSaid : Prop := fnExactEdOrdersRow.holds Try.pinned (OpenSpec.ofChange fnExactEdOrdersSpec)

/-- ITS FALSE NEIGHBOUR: 'it returns false'. Refute it at one input. -/
def fnExactEdOrdersWrong : ChangeSpec := { name := "fnExactEdOrders", fn := fun _ => fun
  | [d1, d2] => { results := [.lit (.bool false)], args := [d1, d2] }
  | _ => none }
def FnExactEdOrdersWrongFalsely : Prop := fnExactEdOrdersRow.holds Try.pinned (OpenSpec.ofChange fnExactEdOrdersWrong)

/-- 'laws.FnExactMerge': WHATEVER THE INPUT: true; the input reads as it did. -/
def fnExactMergeSpec : ChangeSpec := { name := "fnExactMerge", fn := fun _ => fun
  | [d1, d2, d3] => { results := [.lit (.bool true)], args := [d1, d2, d3] }
  | _ => none }
def fnExactMergeRow : OpenClaim := { program := "ythcnbokoghjkjaa", sum := "d163699252a70965b20d6a83be795df943d51f511118f9cc7ad58e38318fc5ad", func := "loop.example/g00825/laws.FnExactMerge", spec := "fnExactMerge", inPlace := ["internal/bytealg.IndexByteString", "internal/bytealg.IndexString"], unfollowed := true, recurses := true, named := ["internal/bytealg.MaxLen"], apart := false }
def FnExactMergeSaid : Prop := fnExactMergeRow.holds Try.pinned (OpenSpec.ofChange fnExactMergeSpec)

/-- ITS FALSE NEIGHBOUR: 'it returns false'. Refute it at one input. -/
def fnExactMergeWrong : ChangeSpec := { name := "fnExactMerge", fn := fun _ => fun
  | [d1, d2, d3] => { results := [.lit (.bool false)], args := [d1, d2, d3] }
  | _ => none }
def FnExactMergeWrongFalsely : Prop := fnExactMergeRow.holds Try.pinned (OpenSpec.ofChange fnExactMergeWrong)

/-- 'laws.FnExactPartsOf': WHATEVER THE INPUT: true; the input reads as it did. -/
def fnExactPartsOfSpec : ChangeSpec := { name := "fnExactPartsOf", fn := fun _ => fun
  | [d1, d2, d3] => { results := [.lit (.bool true)], args := [d1, d2, d3] }
  | _ => none }
def fnExactPartsOfRow : OpenClaim := { program := "ythcnbokoghjkjaa", sum := "d163699252a70965b20d6a83be795df943d51f511118f9cc7ad58e38318fc5ad", func := "loop.example/g00825/laws.FnExactPartsOf", spec := "fnExactPartsOf", inPlace := ["internal/bytealg.IndexByteString", "internal/bytealg.IndexString"], unfollowed := true, recurses := true, named := ["internal/bytealg.MaxLen"], apart := false }
def FnExactPartsOfSaid : Prop := fnExactPartsOfRow.holds Try.pinned (OpenSpec.ofChange fnExactPartsOfSpec)

/-- ITS FALSE NEIGHBOUR: 'it returns false'. Refute it at one input. -/
def fnExactPartsOfWrong : ChangeSpec := { name := "fnExactPartsOf", fn := fun _ => fun
  | [d1, d2, d3] => { results := [.lit (.bool false)], args := [d1, d2, d3] }
  | _ => none }
def FnExactPartsOfWrongFalsely : Prop := fnExactPartsOfRow.holds Try.pinned (OpenSpec.ofChange fnExactPartsOfWrong)

/-- 'laws.FnExactMarkedText': WHATEVER THE INPUT: true; the input reads as it did. -/
def fnExactMarkedTextSpec : ChangeSpec := { name := "fnExactMarkedText", fn := fun _ => fun
  | [d1, d2, d3] => { results := [.lit (.bool true)], args := [d1, d2, d3] }
  | _ => none }
def fnExactMarkedTextRow : OpenClaim := { program := "ythcnbokoghjkjaa", sum := "d163699252a70965b20d6a83be795df943d51f511118f9cc7ad58e38318fc5ad", func := "loop.example/g00825/laws.FnExactMarkedText", spec := "fnExactMarkedText", inPlace := ["internal/bytealg.IndexByteString", "internal/bytealg.IndexString", "internal/abi.NoEscape", "internal/bytealg.MakeNoZero"], unfollowed := true, recurses := true, named := ["internal/bytealg.MaxLen"], apart := false }
def FnExactMarkedTextSaid : Prop := fnExactMarkedTextRow.holds Try.pinned (OpenSpec.ofChange fnExactMarkedTextSpec)

/-- ITS FALSE NEIGHBOUR: 'it returns false'. Refute it at one input. -/
def fnExactMarkedTextWrong : ChangeSpec := { name := "fnExactMarkedText", fn := fun _ => fun
  | [d1, d2, d3] => { results := [.lit (.bool false)], args := [d1, d2, d3] }
  | _ => none }
def FnExactMarkedTextWrongFalsely : Prop := fnExactMarkedTextRow.holds Try.pinned (OpenSpec.ofChange fnExactMarkedTextWrong)

/-- 'laws.FnExactApplyGroups': WHATEVER THE INPUT: true; the input reads as it did. -/
def fnExactApplyGroupsSpec : ChangeSpec := { name := "fnExactApplyGroups", fn := fun _ => fun
  | [d1, d2] => { results := [.lit (.bool true)], args := [d1, d2] }
  | _ => none }
def fnExactApplyGroupsRow : OpenClaim := { program := "ythcnbokoghjkjaa", sum := "d163699252a70965b20d6a83be795df943d51f511118f9cc7ad58e38318fc5ad", func := "loop.example/g00825/laws.FnExactApplyGroups", spec := "fnExactApplyGroups", inPlace := ["internal/bytealg.IndexByteString", "internal/bytealg.IndexString"], unfollowed := true, recurses := true, named := ["internal/bytealg.MaxLen"], apart := false }
def FnExactApplyGroupsSaid : Prop := fnExactApplyGroupsRow.holds Try.pinned (OpenSpec.ofChange fnExactApplyGroupsSpec)

/-- ITS FALSE NEIGHBOUR: 'it returns false'. Refute it at one input. -/
def fnExactApplyGroupsWrong : ChangeSpec := { name := "fnExactApplyGroups", fn := fun _ => fun
  | [d1, d2] => { results := [.lit (.bool false)], args := [d1, d2] }
  | _ => none }
def FnExactApplyGroupsWrongFalsely : Prop := fnExactApplyGroupsRow.holds Try.pinned (OpenSpec.ofChange fnExactApplyGroupsWrong)

/-- 'laws.FnExactRunOrders': WHATEVER THE INPUT: true; the input reads as it did. -/
def fnExactRunOrdersSpec : ChangeSpec := { name := "fnExactRunOrders", fn := fun _ => fun
  | [d1, d2] => { results := [.lit (.bool true)], args := [d1, d2] }
  | _ => none }
def fnExactRunOrdersRow : OpenClaim := { program := "ythcnbokoghjkjaa", sum := "d163699252a70965b20d6a83be795df943d51f511118f9cc7ad58e38318fc5ad", func := "loop.example/g00825/laws.FnExactRunOrders", spec := "fnExactRunOrders", inPlace := ["internal/bytealg.IndexByteString", "internal/bytealg.IndexString", "slices.overlaps[string]"], unfollowed := true, recurses := true, named := ["internal/bytealg.MaxLen"], apart := false }
def FnExactRunOrdersSaid : Prop := fnExactRunOrdersRow.holds Try.pinned (OpenSpec.ofChange fnExactRunOrdersSpec)

/-- ITS FALSE NEIGHBOUR: 'it returns false'. Refute it at one input. -/
def fnExactRunOrdersWrong : ChangeSpec := { name := "fnExactRunOrders", fn := fun _ => fun
  | [d1, d2] => { results := [.lit (.bool false)], args := [d1, d2] }
  | _ => none }
def FnExactRunOrdersWrongFalsely : Prop := fnExactRunOrdersRow.holds Try.pinned (OpenSpec.ofChange fnExactRunOrdersWrong)

/- THE SECOND FORM. 'bulk': how many values and letters a reading holds, each counted each time it is reached (what is shared counts as often as it is met; a slice's spare places count too). A statement '..UptoSaid' is the law's where the arguments, and the package variables that the reading takes, are together of bulk at most 1048576: NARROWER than '..Said'. Prove '..Said' where nothing that the law and all that it calls make is longer than what came in: it says more and counts as full. Else prove '..UptoSaid'. A law counts once. -/
mutual
def uptoBulk {H : Type} : DataW H → Nat
  | .lit (.string bytes) => bytes.length + 1
  | .lit _ => 1
  | .nil => 1
  | .ptr d => uptoBulk d + 1
  | .slice elems spare => uptoBulkAll elems + uptoBulkAll spare + 1
  | .agg parts => uptoBulkAll parts + 1
  | .iface _ d => uptoBulk d + 1
  | .map entries => uptoBulkEntries entries + 1
  | .held _ => 1
def uptoBulkAll {H : Type} : List (DataW H) → Nat
  | [] => 0
  | d :: r => uptoBulk d + uptoBulkAll r
def uptoBulkEntries {H : Type} : List (Lit × DataW H) → Nat
  | [] => 0
  | x :: r => uptoBulkEntry x + uptoBulkEntries r
def uptoBulkEntry {H : Type} : Lit × DataW H → Nat
  | (.string bytes, d) => bytes.length + uptoBulk d + 1
  | (_, d) => uptoBulk d + 1
 end
def uptoSmall : (H : Type) → List (DataW H) → Bool := fun _ ds => decide (uptoBulkAll ds ≤ 1048576)
def OpenSpec.upto (s : _root_.Go.ChangeSpec) : _root_.Go.OpenSpec := { _root_.Go.OpenSpec.ofChange s with cond := some uptoSmall }

/-- 'laws.FnExactBackGroups', WHERE WHAT IT READS IS OF BULK AT MOST 1048576: true; the input reads as it did. -/
def fnExactBackGroupsUptoRow : OpenClaim := { program := "ythcnbokoghjkjaa", sum := "d163699252a70965b20d6a83be795df943d51f511118f9cc7ad58e38318fc5ad", func := "loop.example/g00825/laws.FnExactBackGroups", spec := "fnExactBackGroups", inPlace := ["internal/bytealg.IndexByteString", "internal/bytealg.IndexString"], unfollowed := true, recurses := true, named := ["internal/bytealg.MaxLen"], apart := false, narrowed := true }
def FnExactBackGroupsUptoSaid : Prop := fnExactBackGroupsUptoRow.holds Try.pinned (OpenSpec.upto fnExactBackGroupsSpec)

/-- 'laws.FnExactCanSwap', WHERE WHAT IT READS IS OF BULK AT MOST 1048576: true; the input reads as it did. -/
def fnExactCanSwapUptoRow : OpenClaim := { program := "ythcnbokoghjkjaa", sum := "d163699252a70965b20d6a83be795df943d51f511118f9cc7ad58e38318fc5ad", func := "loop.example/g00825/laws.FnExactCanSwap", spec := "fnExactCanSwap", inPlace := ["internal/bytealg.IndexByteString", "internal/bytealg.IndexString"], unfollowed := true, recurses := true, named := ["internal/bytealg.MaxLen"], apart := false, narrowed := true }
def FnExactCanSwapUptoSaid : Prop := fnExactCanSwapUptoRow.holds Try.pinned (OpenSpec.upto fnExactCanSwapSpec)

/-- 'laws.FnExactTextAt', WHERE WHAT IT READS IS OF BULK AT MOST 1048576: true; the input reads as it did. -/
def fnExactTextAtUptoRow : OpenClaim := { program := "ythcnbokoghjkjaa", sum := "d163699252a70965b20d6a83be795df943d51f511118f9cc7ad58e38318fc5ad", func := "loop.example/g00825/laws.FnExactTextAt", spec := "fnExactTextAt", inPlace := ["internal/bytealg.IndexByteString", "internal/bytealg.IndexString"], unfollowed := true, recurses := true, named := ["internal/bytealg.MaxLen"], apart := false, narrowed := true }
def FnExactTextAtUptoSaid : Prop := fnExactTextAtUptoRow.holds Try.pinned (OpenSpec.upto fnExactTextAtSpec)

/-- 'laws.FnExactMoveHunks', WHERE WHAT IT READS IS OF BULK AT MOST 1048576: true; the input reads as it did. -/
def fnExactMoveHunksUptoRow : OpenClaim := { program := "ythcnbokoghjkjaa", sum := "d163699252a70965b20d6a83be795df943d51f511118f9cc7ad58e38318fc5ad", func := "loop.example/g00825/laws.FnExactMoveHunks", spec := "fnExactMoveHunks", inPlace := ["internal/bytealg.IndexByteString", "internal/bytealg.IndexString"], unfollowed := true, recurses := true, named := ["internal/bytealg.MaxLen"], apart := false, narrowed := true }
def FnExactMoveHunksUptoSaid : Prop := fnExactMoveHunksUptoRow.holds Try.pinned (OpenSpec.upto fnExactMoveHunksSpec)

/-- 'laws.FnExactTillOf', WHERE WHAT IT READS IS OF BULK AT MOST 1048576: true; the input reads as it did. -/
def fnExactTillOfUptoRow : OpenClaim := { program := "ythcnbokoghjkjaa", sum := "d163699252a70965b20d6a83be795df943d51f511118f9cc7ad58e38318fc5ad", func := "loop.example/g00825/laws.FnExactTillOf", spec := "fnExactTillOf", inPlace := ["internal/bytealg.IndexByteString", "internal/bytealg.IndexString"], unfollowed := true, recurses := true, named := ["internal/bytealg.MaxLen"], apart := false, narrowed := true }
def FnExactTillOfUptoSaid : Prop := fnExactTillOfUptoRow.holds Try.pinned (OpenSpec.upto fnExactTillOfSpec)

/-- 'laws.FnExactEdOrders', WHERE WHAT IT READS IS OF BULK AT MOST 1048576: true; the input reads as it did. -/
def fnExactEdOrdersUptoRow : OpenClaim := { program := "ythcnbokoghjkjaa", sum := "d163699252a70965b20d6a83be795df943d51f511118f9cc7ad58e38318fc5ad", func := "loop.example/g00825/laws.FnExactEdOrders", spec := "fnExactEdOrders", inPlace := ["internal/bytealg.IndexByteString", "internal/bytealg.IndexString"], unfollowed := true, recurses := true, named := ["internal/bytealg.MaxLen"], apart := false, narrowed := true }
def FnExactEdOrdersUptoSaid : Prop := fnExactEdOrdersUptoRow.holds Try.pinned (OpenSpec.upto fnExactEdOrdersSpec)

/-- 'laws.FnExactMerge', WHERE WHAT IT READS IS OF BULK AT MOST 1048576: true; the input reads as it did. -/
def fnExactMergeUptoRow : OpenClaim := { program := "ythcnbokoghjkjaa", sum := "d163699252a70965b20d6a83be795df943d51f511118f9cc7ad58e38318fc5ad", func := "loop.example/g00825/laws.FnExactMerge", spec := "fnExactMerge", inPlace := ["internal/bytealg.IndexByteString", "internal/bytealg.IndexString"], unfollowed := true, recurses := true, named := ["internal/bytealg.MaxLen"], apart := false, narrowed := true }
def FnExactMergeUptoSaid : Prop := fnExactMergeUptoRow.holds Try.pinned (OpenSpec.upto fnExactMergeSpec)

/-- 'laws.FnExactPartsOf', WHERE WHAT IT READS IS OF BULK AT MOST 1048576: true; the input reads as it did. -/
def fnExactPartsOfUptoRow : OpenClaim := { program := "ythcnbokoghjkjaa", sum := "d163699252a70965b20d6a83be795df943d51f511118f9cc7ad58e38318fc5ad", func := "loop.example/g00825/laws.FnExactPartsOf", spec := "fnExactPartsOf", inPlace := ["internal/bytealg.IndexByteString", "internal/bytealg.IndexString"], unfollowed := true, recurses := true, named := ["internal/bytealg.MaxLen"], apart := false, narrowed := true }
def FnExactPartsOfUptoSaid : Prop := fnExactPartsOfUptoRow.holds Try.pinned (OpenSpec.upto fnExactPartsOfSpec)

/-- 'laws.FnExactMarkedText', WHERE WHAT IT READS IS OF BULK AT MOST 1048576: true; the input reads as it did. -/
def fnExactMarkedTextUptoRow : OpenClaim := { program := "ythcnbokoghjkjaa", sum := "d163699252a70965b20d6a83be795df943d51f511118f9cc7ad58e38318fc5ad", func := "loop.example/g00825/laws.FnExactMarkedText", spec := "fnExactMarkedText", inPlace := ["internal/bytealg.IndexByteString", "internal/bytealg.IndexString", "internal/abi.NoEscape", "internal/bytealg.MakeNoZero"], unfollowed := true, recurses := true, named := ["internal/bytealg.MaxLen"], apart := false, narrowed := true }
def FnExactMarkedTextUptoSaid : Prop := fnExactMarkedTextUptoRow.holds Try.pinned (OpenSpec.upto fnExactMarkedTextSpec)

/-- 'laws.FnExactApplyGroups', WHERE WHAT IT READS IS OF BULK AT MOST 1048576: true; the input reads as it did. -/
def fnExactApplyGroupsUptoRow : OpenClaim := { program := "ythcnbokoghjkjaa", sum := "d163699252a70965b20d6a83be795df943d51f511118f9cc7ad58e38318fc5ad", func := "loop.example/g00825/laws.FnExactApplyGroups", spec := "fnExactApplyGroups", inPlace := ["internal/bytealg.IndexByteString", "internal/bytealg.IndexString"], unfollowed := true, recurses := true, named := ["internal/bytealg.MaxLen"], apart := false, narrowed := true }
def FnExactApplyGroupsUptoSaid : Prop := fnExactApplyGroupsUptoRow.holds Try.pinned (OpenSpec.upto fnExactApplyGroupsSpec)

/-- 'laws.FnExactRunOrders', WHERE WHAT IT READS IS OF BULK AT MOST 1048576: true; the input reads as it did. -/
def fnExactRunOrdersUptoRow : OpenClaim := { program := "ythcnbokoghjkjaa", sum := "d163699252a70965b20d6a83be795df943d51f511118f9cc7ad58e38318fc5ad", func := "loop.example/g00825/laws.FnExactRunOrders", spec := "fnExactRunOrders", inPlace := ["internal/bytealg.IndexByteString", "internal/bytealg.IndexString", "slices.overlaps[string]"], unfollowed := true, recurses := true, named := ["internal/bytealg.MaxLen"], apart := false, narrowed := true }
def FnExactRunOrdersUptoSaid : Prop := fnExactRunOrdersUptoRow.holds Try.pinned (OpenSpec.upto fnExactRunOrdersSpec)

end Rows
end Go.Proofs.Ythcnbokoghjkjaa
