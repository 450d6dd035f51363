/-
  No cell of these rows narrows 'for every input' (looked for: loops, veiled, ifaces, maps, wideKeys, modest, calm, conditions, laid).
  DERIVED. THE GIVEN ROWS OF THIS SEAT. 7 by the template 'for every input the law returns true; each argument reads behind the call as it read before'; 0 by the template 'total and deterministic' (their statements: YtifjjdpgheoogaaTotals.lean).
  GIVEN WITH THE SEED: the statements are not yours to turn. If you find one false, say at which input.
  Laid BY PROGRAM, IN A SANDBOX (cutbox-rows.mjs): the forced cells as the released guide's own fill.sh prints them over the translation a376987f224b4dc5… (all of the seat's roots in one cut). By AI agents, Wed Nov 11 2026. No macro, syntax, notation, axiom, sorry.
-/
import Derived.Test.YtifjjdpgheoogaaChecked
import GoSem.Claim
import GoSem.ClaimJoined
import GoSem.ClaimMapViews
import Derived.JoinedTies
import Derived.KernelRfl
namespace Go.Proofs.Ytifjjdpgheoogaa
/- THE CELL 'sum', in the pinned program and in every row, IS THE sha256 OF THE DUMP (.gsa) THAT YtifjjdpgheoogaaProg.lean LOADS. Nothing in Lean hashes anything: it is a label: what it is worth is what the hold of that sum in a sandbox is worth. -/
noncomputable def Try.pinned : Pinned := { name := "ytifjjdpgheoogaa", sum := "a376987f224b4dc5e8b31f5e69bcbed189ed32aee84acb9f1536e183bac96e09", checked := Try.checked }
namespace Rows
def none {H : Type} : Left H := { results := [], args := [] }

/-- 'laws.FnExactMoveHunks': WHATEVER THE INPUT: true; the input reads as it did. -/
def fnExactMoveHunksSpec : ChangeSpec := { name := "fnExactMoveHunks", fn := fun _ => fun
  | [d1, d2, d3] => { results := [.lit (.bool true)], args := [d1, d2, d3] }
  | _ => none }
def fnExactMoveHunksRow : OpenClaim := { program := "ytifjjdpgheoogaa", sum := "a376987f224b4dc5e8b31f5e69bcbed189ed32aee84acb9f1536e183bac96e09", func := "loop.example/g00825/laws.FnExactMoveHunks", spec := "fnExactMoveHunks", inPlace := ["internal/bytealg.IndexByteString", "internal/bytealg.IndexString"], unfollowed := true, recurses := true, named := ["internal/bytealg.MaxLen"], apart := false }
def FnExactMoveHunksSaid : Prop := fnExactMoveHunksRow.holds Try.pinned (OpenSpec.ofChange fnExactMoveHunksSpec)

/-- ITS FALSE NEIGHBOUR: 'it returns false'. Refute it at one input. -/
def fnExactMoveHunksWrong : ChangeSpec := { name := "fnExactMoveHunks", fn := fun _ => fun
  | [d1, d2, d3] => { results := [.lit (.bool false)], args := [d1, d2, d3] }
  | _ => none }
def FnExactMoveHunksWrongFalsely : Prop := fnExactMoveHunksRow.holds Try.pinned (OpenSpec.ofChange fnExactMoveHunksWrong)

/-- 'laws.FnExactEdOrders': WHATEVER THE INPUT: true; the input reads as it did. -/
def fnExactEdOrdersSpec : ChangeSpec := { name := "fnExactEdOrders", fn := fun _ => fun
  | [d1, d2] => { results := [.lit (.bool true)], args := [d1, d2] }
  | _ => none }
def fnExactEdOrdersRow : OpenClaim := { program := "ytifjjdpgheoogaa", sum := "a376987f224b4dc5e8b31f5e69bcbed189ed32aee84acb9f1536e183bac96e09", func := "loop.example/g00825/laws.FnExactEdOrders", spec := "fnExactEdOrders", inPlace := ["internal/bytealg.IndexByteString", "internal/bytealg.IndexString"], unfollowed := true, recurses := true, named := ["internal/bytealg.MaxLen"], apart := false }
def FnExactEdOrdersSaid : Prop := fnExactEdOrdersRow.holds Try.pinned (OpenSpec.ofChange fnExactEdOrdersSpec)

/-- ITS FALSE NEIGHBOUR: 'it returns false'. Refute it at one input. -/
def fnExactEdOrdersWrong : ChangeSpec := { name := "fnExactEdOrders", fn := fun _ => fun
  | [d1, d2] => { results := [.lit (.bool false)], args := [d1, d2] }
  | _ => none }
def FnExactEdOrdersWrongFalsely : Prop := fnExactEdOrdersRow.holds Try.pinned (OpenSpec.ofChange fnExactEdOrdersWrong)

/-- 'laws.FnExactRunOrders': WHATEVER THE INPUT: true; the input reads as it did. -/
def fnExactRunOrdersSpec : ChangeSpec := { name := "fnExactRunOrders", fn := fun _ => fun
  | [d1, d2] => { results := [.lit (.bool true)], args := [d1, d2] }
  | _ => none }
def fnExactRunOrdersRow : OpenClaim := { program := "ytifjjdpgheoogaa", sum := "a376987f224b4dc5e8b31f5e69bcbed189ed32aee84acb9f1536e183bac96e09", func := "loop.example/g00825/laws.FnExactRunOrders", spec := "fnExactRunOrders", inPlace := ["internal/bytealg.IndexByteString", "internal/bytealg.IndexString", "slices.overlaps[string]"], unfollowed := true, recurses := true, named := ["internal/bytealg.MaxLen"], apart := false }
def FnExactRunOrdersSaid : Prop := fnExactRunOrdersRow.holds Try.pinned (OpenSpec.ofChange fnExactRunOrdersSpec)

/-- ITS FALSE NEIGHBOUR: 'it returns false'. Refute it at one input. -/
def fnExactRunOrdersWrong : ChangeSpec := { name := "fnExactRunOrders", fn := fun _ => fun
  | [d1, d2] => { results := [.lit (.bool false)], args := [d1, d2] }
  | _ => none }
def FnExactRunOrdersWrongFalsely : Prop := fnExactRunOrdersRow.holds Try.pinned (OpenSpec.ofChange fnExactRunOrdersWrong)

/-- 'laws.FnParts': WHATEVER THE INPUT: true; the input reads as it did. -/
def fnPartsSpec : ChangeSpec := { name := "fnParts", fn := fun _ => fun
  | [d1, d2] => { results := [.lit (.bool true)], args := [d1, d2] }
  | _ => none }
def fnPartsRow : OpenClaim := { program := "ytifjjdpgheoogaa", sum := "a376987f224b4dc5e8b31f5e69bcbed189ed32aee84acb9f1536e183bac96e09", func := "loop.example/g00825/laws.FnParts", spec := "fnParts", inPlace := ["internal/bytealg.IndexByteString", "internal/bytealg.IndexString"], unfollowed := true, recurses := true, named := ["internal/bytealg.MaxLen"], apart := false }
def FnPartsSaid : Prop := fnPartsRow.holds Try.pinned (OpenSpec.ofChange fnPartsSpec)

/-- ITS FALSE NEIGHBOUR: 'it returns false'. Refute it at one input. -/
def fnPartsWrong : ChangeSpec := { name := "fnParts", fn := fun _ => fun
  | [d1, d2] => { results := [.lit (.bool false)], args := [d1, d2] }
  | _ => none }
def FnPartsWrongFalsely : Prop := fnPartsRow.holds Try.pinned (OpenSpec.ofChange fnPartsWrong)

/-- 'laws.FnMerged': WHATEVER THE INPUT: true; the input reads as it did. -/
def fnMergedSpec : ChangeSpec := { name := "fnMerged", fn := fun _ => fun
  | [d1, d2] => { results := [.lit (.bool true)], args := [d1, d2] }
  | _ => none }
def fnMergedRow : OpenClaim := { program := "ytifjjdpgheoogaa", sum := "a376987f224b4dc5e8b31f5e69bcbed189ed32aee84acb9f1536e183bac96e09", func := "loop.example/g00825/laws.FnMerged", spec := "fnMerged", inPlace := ["internal/bytealg.IndexByteString", "internal/bytealg.IndexString", "internal/abi.NoEscape", "internal/bytealg.MakeNoZero"], unfollowed := true, recurses := true, named := ["internal/bytealg.MaxLen"], apart := false }
def FnMergedSaid : Prop := fnMergedRow.holds Try.pinned (OpenSpec.ofChange fnMergedSpec)

/-- ITS FALSE NEIGHBOUR: 'it returns false'. Refute it at one input. -/
def fnMergedWrong : ChangeSpec := { name := "fnMerged", fn := fun _ => fun
  | [d1, d2] => { results := [.lit (.bool false)], args := [d1, d2] }
  | _ => none }
def FnMergedWrongFalsely : Prop := fnMergedRow.holds Try.pinned (OpenSpec.ofChange fnMergedWrong)

/-- 'laws.FnExactSquashAt': WHATEVER THE INPUT: true; the input reads as it did. -/
def fnExactSquashAtSpec : ChangeSpec := { name := "fnExactSquashAt", fn := fun _ => fun
  | [d1, d2] => { results := [.lit (.bool true)], args := [d1, d2] }
  | _ => none }
def fnExactSquashAtRow : OpenClaim := { program := "ytifjjdpgheoogaa", sum := "a376987f224b4dc5e8b31f5e69bcbed189ed32aee84acb9f1536e183bac96e09", func := "loop.example/g00825/laws.FnExactSquashAt", spec := "fnExactSquashAt", inPlace := ["internal/bytealg.IndexByteString", "internal/bytealg.IndexString", "slices.overlaps[[]loop.example/g00825/impl.Hunk]"], unfollowed := true, recurses := true, named := ["internal/bytealg.MaxLen"], apart := false }
def FnExactSquashAtSaid : Prop := fnExactSquashAtRow.holds Try.pinned (OpenSpec.ofChange fnExactSquashAtSpec)

/-- ITS FALSE NEIGHBOUR: 'it returns false'. Refute it at one input. -/
def fnExactSquashAtWrong : ChangeSpec := { name := "fnExactSquashAt", fn := fun _ => fun
  | [d1, d2] => { results := [.lit (.bool false)], args := [d1, d2] }
  | _ => none }
def FnExactSquashAtWrongFalsely : Prop := fnExactSquashAtRow.holds Try.pinned (OpenSpec.ofChange fnExactSquashAtWrong)

/-- 'laws.FnSquashed': WHATEVER THE INPUT: true; the input reads as it did. -/
def fnSquashedSpec : ChangeSpec := { name := "fnSquashed", fn := fun _ => fun
  | [d1, d2] => { results := [.lit (.bool true)], args := [d1, d2] }
  | _ => none }
def fnSquashedRow : OpenClaim := { program := "ytifjjdpgheoogaa", sum := "a376987f224b4dc5e8b31f5e69bcbed189ed32aee84acb9f1536e183bac96e09", func := "loop.example/g00825/laws.FnSquashed", spec := "fnSquashed", inPlace := ["internal/bytealg.IndexByteString", "internal/bytealg.IndexString", "slices.overlaps[[]loop.example/g00825/impl.Hunk]"], unfollowed := true, recurses := true, named := ["internal/bytealg.MaxLen"], apart := false }
def FnSquashedSaid : Prop := fnSquashedRow.holds Try.pinned (OpenSpec.ofChange fnSquashedSpec)

/-- ITS FALSE NEIGHBOUR: 'it returns false'. Refute it at one input. -/
def fnSquashedWrong : ChangeSpec := { name := "fnSquashed", fn := fun _ => fun
  | [d1, d2] => { results := [.lit (.bool false)], args := [d1, d2] }
  | _ => none }
def FnSquashedWrongFalsely : Prop := fnSquashedRow.holds Try.pinned (OpenSpec.ofChange fnSquashedWrong)

/- THE SECOND FORM. 'bulk': how many values and letters a reading holds, each counted each time it is reached (what is shared counts as often as it is met; a slice's spare places count too). A statement '..UptoSaid' is the law's where the arguments, and the package variables that the reading takes, are together of bulk at most 1048576: NARROWER than '..Said'. Prove '..Said' where nothing that the law and all that it calls make is longer than what came in: it says more and counts as full. Else prove '..UptoSaid'. A law counts once. -/
mutual
def uptoBulk {H : Type} : DataW H → Nat
  | .lit (.string bytes) => bytes.length + 1
  | .lit _ => 1
  | .nil => 1
  | .ptr d => uptoBulk d + 1
  | .slice elems spare => uptoBulkAll elems + uptoBulkAll spare + 1
  | .agg parts => uptoBulkAll parts + 1
  | .iface _ d => uptoBulk d + 1
  | .map entries => uptoBulkEntries entries + 1
  | .held _ => 1
def uptoBulkAll {H : Type} : List (DataW H) → Nat
  | [] => 0
  | d :: r => uptoBulk d + uptoBulkAll r
def uptoBulkEntries {H : Type} : List (Lit × DataW H) → Nat
  | [] => 0
  | x :: r => uptoBulkEntry x + uptoBulkEntries r
def uptoBulkEntry {H : Type} : Lit × DataW H → Nat
  | (.string bytes, d) => bytes.length + uptoBulk d + 1
  | (_, d) => uptoBulk d + 1
 end
def uptoSmall : (H : Type) → List (DataW H) → Bool := fun _ ds => decide (uptoBulkAll ds ≤ 1048576)
def OpenSpec.upto (s : _root_.Go.ChangeSpec) : _root_.Go.OpenSpec := { _root_.Go.OpenSpec.ofChange s with cond := some uptoSmall }

/-- 'laws.FnExactMoveHunks', WHERE WHAT IT READS IS OF BULK AT MOST 1048576: true; the input reads as it did. -/
def fnExactMoveHunksUptoRow : OpenClaim := { program := "ytifjjdpgheoogaa", sum := "a376987f224b4dc5e8b31f5e69bcbed189ed32aee84acb9f1536e183bac96e09", func := "loop.example/g00825/laws.FnExactMoveHunks", spec := "fnExactMoveHunks", inPlace := ["internal/bytealg.IndexByteString", "internal/bytealg.IndexString"], unfollowed := true, recurses := true, named := ["internal/bytealg.MaxLen"], apart := false, narrowed := true }
def FnExactMoveHunksUptoSaid : Prop := fnExactMoveHunksUptoRow.holds Try.pinned (OpenSpec.upto fnExactMoveHunksSpec)

/-- 'laws.FnExactEdOrders', WHERE WHAT IT READS IS OF BULK AT MOST 1048576: true; the input reads as it did. -/
def fnExactEdOrdersUptoRow : OpenClaim := { program := "ytifjjdpgheoogaa", sum := "a376987f224b4dc5e8b31f5e69bcbed189ed32aee84acb9f1536e183bac96e09", func := "loop.example/g00825/laws.FnExactEdOrders", spec := "fnExactEdOrders", inPlace := ["internal/bytealg.IndexByteString", "internal/bytealg.IndexString"], unfollowed := true, recurses := true, named := ["internal/bytealg.MaxLen"], apart := false, narrowed := true }
def FnExactEdOrdersUptoSaid : Prop := fnExactEdOrdersUptoRow.holds Try.pinned (OpenSpec.upto fnExactEdOrdersSpec)

/-- 'laws.FnExactRunOrders', WHERE WHAT IT READS IS OF BULK AT MOST 1048576: true; the input reads as it did. -/
def fnExactRunOrdersUptoRow : OpenClaim := { program := "ytifjjdpgheoogaa", sum := "a376987f224b4dc5e8b31f5e69bcbed189ed32aee84acb9f1536e183bac96e09", func := "loop.example/g00825/laws.FnExactRunOrders", spec := "fnExactRunOrders", inPlace := ["internal/bytealg.IndexByteString", "internal/bytealg.IndexString", "slices.overlaps[string]"], unfollowed := true, recurses := true, named := ["internal/bytealg.MaxLen"], apart := false, narrowed := true }
def FnExactRunOrdersUptoSaid : Prop := fnExactRunOrdersUptoRow.holds Try.pinned (OpenSpec.upto fnExactRunOrdersSpec)

/-- 'laws.FnParts', WHERE WHAT IT READS IS OF BULK AT MOST 1048576: true; the input reads as it did. -/
def fnPartsUptoRow : OpenClaim := { program := "ytifjjdpgheoogaa", sum := "a376987f224b4dc5e8b31f5e69bcbed189ed32aee84acb9f1536e183bac96e09", func := "loop.example/g00825/laws.FnParts", spec := "fnParts", inPlace := ["internal/bytealg.IndexByteString", "internal/bytealg.IndexString"], unfollowed := true, recurses := true, named := ["internal/bytealg.MaxLen"], apart := false, narrowed := true }
def FnPartsUptoSaid : Prop := fnPartsUptoRow.holds Try.pinned (OpenSpec.upto fnPartsSpec)

/-- 'laws.FnMerged', WHERE WHAT IT READS IS OF BULK AT MOST 1048576: true; the input reads as it did. -/
def fnMergedUptoRow : OpenClaim := { program := "ytifjjdpgheoogaa", sum := "a376987f224b4dc5e8b31f5e69bcbed189ed32aee84acb9f1536e183bac96e09", func := "loop.example/g00825/laws.FnMerged", spec := "fnMerged", inPlace := ["internal/bytealg.IndexByteString", "internal/bytealg.IndexString", "internal/abi.NoEscape", "internal/bytealg.MakeNoZero"], unfollowed := true, recurses := true, named := ["internal/bytealg.MaxLen"], apart := false, narrowed := true }
def FnMergedUptoSaid : Prop := fnMergedUptoRow.holds Try.pinned (OpenSpec.upto fnMergedSpec)

/-- 'laws.FnExactSquashAt', WHERE WHAT IT READS IS OF BULK AT MOST 1048576: true; the input reads as it did. -/
def fnExactSquashAtUptoRow : OpenClaim := { program := "ytifjjdpgheoogaa", sum := "a376987f224b4dc5e8b31f5e69bcbed189ed32aee84acb9f1536e183bac96e09", func := "loop.example/g00825/laws.FnExactSquashAt", spec := "fnExactSquashAt", inPlace := ["internal/bytealg.IndexByteString", "internal/bytealg.IndexString", "slices.overlaps[[]loop.example/g00825/impl.Hunk]"], unfollowed := true, recurses := true, named := ["internal/bytealg.MaxLen"], apart := false, narrowed := true }
def FnExactSquashAtUptoSaid : Prop := fnExactSquashAtUptoRow.holds Try.pinned (OpenSpec.upto fnExactSquashAtSpec)

/-- 'laws.FnSquashed', WHERE WHAT IT READS IS OF BULK AT MOST 1048576: true; the input reads as it did. -/
def fnSquashedUptoRow : OpenClaim := { program := "ytifjjdpgheoogaa", sum := "a376987f224b4dc5e8b31f5e69bcbed189ed32aee84acb9f1536e183bac96e09", func := "loop.example/g00825/laws.FnSquashed", spec := "fnSquashed", inPlace := ["internal/bytealg.IndexByteString", "internal/bytealg.IndexString", "slices.overlaps[[]loop.example/g00825/impl.Hunk]"], unfollowed := true, recurses := true, named := ["internal/bytealg.MaxLen"], apart := false, narrowed := true }
def FnSquashedUptoSaid : Prop := fnSquashedUptoRow.holds Try.pinned (OpenSpec.upto fnSquashedSpec)

end Rows
end Go.Proofs.Ytifjjdpgheoogaa
