/-
  No cell of these rows narrows 'for every input' (looked for: loops, veiled, ifaces, maps, wideKeys, modest, calm, conditions, laid).
  DERIVED. THE GIVEN ROWS OF THIS SEAT. 10 by the template 'for every input the law returns true; each argument reads behind the call as it read before'; 0 by the template 'total and deterministic' (their statements: YtaapbnhggfmlpaaTotals.lean).
  GIVEN WITH THE SEED: the statements are not yours to turn. If you find one false, say at which input.
  Laid BY PROGRAM, IN A SANDBOX (cutbox-rows.mjs): the forced cells as the released guide's own fill.sh prints them over the translation 17ae1ca43b30e8f8… (all of the seat's roots in one cut). By AI agents, Wed Nov 11 2026. No macro, syntax, notation, axiom, sorry.
-/
import Derived.Test.YtaapbnhggfmlpaaChecked
import GoSem.Claim
import GoSem.ClaimJoined
import GoSem.ClaimMapViews
import Derived.JoinedTies
import Derived.KernelRfl
namespace Go.Proofs.Ytaapbnhggfmlpaa
/- THE CELL 'sum', in the pinned program and in every row, IS THE sha256 OF THE DUMP (.gsa) THAT YtaapbnhggfmlpaaProg.lean LOADS. Nothing in Lean hashes anything: it is a label: what it is worth is what the hold of that sum in a sandbox is worth. -/
noncomputable def Try.pinned : Pinned := { name := "ytaapbnhggfmlpaa", sum := "17ae1ca43b30e8f8fd25edc94ac24b838c225ef4116a2fbf5c01c2035cc7c72a", checked := Try.checked }
namespace Rows
def none {H : Type} : Left H := { results := [], args := [] }

/-- 'laws.FnPlaces': WHATEVER THE INPUT: true; the input reads as it did. -/
def fnPlacesSpec : ChangeSpec := { name := "fnPlaces", fn := fun _ => fun
  | [d1, d2] => { results := [.lit (.bool true)], args := [d1, d2] }
  | _ => none }
def fnPlacesRow : OpenClaim := { program := "ytaapbnhggfmlpaa", sum := "17ae1ca43b30e8f8fd25edc94ac24b838c225ef4116a2fbf5c01c2035cc7c72a", func := "loop.example/g01149/laws.FnPlaces", spec := "fnPlaces", unfollowed := true, recurses := true, plainKeys := false, apart := false }
def FnPlacesSaid : Prop := fnPlacesRow.holds Try.pinned (OpenSpec.ofChange fnPlacesSpec)

/-- ITS FALSE NEIGHBOUR: 'it returns false'. Refute it at one input. -/
def fnPlacesWrong : ChangeSpec := { name := "fnPlaces", fn := fun _ => fun
  | [d1, d2] => { results := [.lit (.bool false)], args := [d1, d2] }
  | _ => none }
def FnPlacesWrongFalsely : Prop := fnPlacesRow.holds Try.pinned (OpenSpec.ofChange fnPlacesWrong)

/-- 'laws.FnExactTreeBound': WHATEVER THE INPUT: true; the input reads as it did. -/
def fnExactTreeBoundSpec : ChangeSpec := { name := "fnExactTreeBound", fn := fun _ => fun
  | [d] => { results := [.lit (.bool true)], args := [d] }
  | _ => none }
def fnExactTreeBoundRow : OpenClaim := { program := "ytaapbnhggfmlpaa", sum := "17ae1ca43b30e8f8fd25edc94ac24b838c225ef4116a2fbf5c01c2035cc7c72a", func := "loop.example/g01149/laws.FnExactTreeBound", spec := "fnExactTreeBound", plainKeys := false, apart := false }
def FnExactTreeBoundSaid : Prop := fnExactTreeBoundRow.holds Try.pinned (OpenSpec.ofChange fnExactTreeBoundSpec)

/-- ITS FALSE NEIGHBOUR: 'it returns false'. Refute it at one input. -/
def fnExactTreeBoundWrong : ChangeSpec := { name := "fnExactTreeBound", fn := fun _ => fun
  | [d] => { results := [.lit (.bool false)], args := [d] }
  | _ => none }
def FnExactTreeBoundWrongFalsely : Prop := fnExactTreeBoundRow.holds Try.pinned (OpenSpec.ofChange fnExactTreeBoundWrong)

/-- 'laws.FnCritical': WHATEVER THE INPUT: true; the input reads as it did. -/
def fnCriticalSpec : ChangeSpec := { name := "fnCritical", fn := fun _ => fun
  | [d1, d2] => { results := [.lit (.bool true)], args := [d1, d2] }
  | _ => none }
def fnCriticalRow : OpenClaim := { program := "ytaapbnhggfmlpaa", sum := "17ae1ca43b30e8f8fd25edc94ac24b838c225ef4116a2fbf5c01c2035cc7c72a", func := "loop.example/g01149/laws.FnCritical", spec := "fnCritical", unfollowed := true, recurses := true, plainKeys := false, apart := false }
def FnCriticalSaid : Prop := fnCriticalRow.holds Try.pinned (OpenSpec.ofChange fnCriticalSpec)

/-- ITS FALSE NEIGHBOUR: 'it returns false'. Refute it at one input. -/
def fnCriticalWrong : ChangeSpec := { name := "fnCritical", fn := fun _ => fun
  | [d1, d2] => { results := [.lit (.bool false)], args := [d1, d2] }
  | _ => none }
def FnCriticalWrongFalsely : Prop := fnCriticalRow.holds Try.pinned (OpenSpec.ofChange fnCriticalWrong)

/-- 'laws.FnBetween': WHATEVER THE INPUT: true; the input reads as it did. -/
def fnBetweenSpec : ChangeSpec := { name := "fnBetween", fn := fun _ => fun
  | [d1, d2] => { results := [.lit (.bool true)], args := [d1, d2] }
  | _ => none }
def fnBetweenRow : OpenClaim := { program := "ytaapbnhggfmlpaa", sum := "17ae1ca43b30e8f8fd25edc94ac24b838c225ef4116a2fbf5c01c2035cc7c72a", func := "loop.example/g01149/laws.FnBetween", spec := "fnBetween", unfollowed := true, recurses := true, plainKeys := false, apart := false }
def FnBetweenSaid : Prop := fnBetweenRow.holds Try.pinned (OpenSpec.ofChange fnBetweenSpec)

/-- ITS FALSE NEIGHBOUR: 'it returns false'. Refute it at one input. -/
def fnBetweenWrong : ChangeSpec := { name := "fnBetween", fn := fun _ => fun
  | [d1, d2] => { results := [.lit (.bool false)], args := [d1, d2] }
  | _ => none }
def FnBetweenWrongFalsely : Prop := fnBetweenRow.holds Try.pinned (OpenSpec.ofChange fnBetweenWrong)

/-- 'laws.FnCountedOrders': WHATEVER THE INPUT: true; the input reads as it did. -/
def fnCountedOrdersSpec : ChangeSpec := { name := "fnCountedOrders", fn := fun _ => fun
  | [d1, d2] => { results := [.lit (.bool true)], args := [d1, d2] }
  | _ => none }
def fnCountedOrdersRow : OpenClaim := { program := "ytaapbnhggfmlpaa", sum := "17ae1ca43b30e8f8fd25edc94ac24b838c225ef4116a2fbf5c01c2035cc7c72a", func := "loop.example/g01149/laws.FnCountedOrders", spec := "fnCountedOrders", unfollowed := true, recurses := true, plainKeys := false, apart := false }
def FnCountedOrdersSaid : Prop := fnCountedOrdersRow.holds Try.pinned (OpenSpec.ofChange fnCountedOrdersSpec)

/-- ITS FALSE NEIGHBOUR: 'it returns false'. Refute it at one input. -/
def fnCountedOrdersWrong : ChangeSpec := { name := "fnCountedOrders", fn := fun _ => fun
  | [d1, d2] => { results := [.lit (.bool false)], args := [d1, d2] }
  | _ => none }
def FnCountedOrdersWrongFalsely : Prop := fnCountedOrdersRow.holds Try.pinned (OpenSpec.ofChange fnCountedOrdersWrong)

/-- 'laws.FnExactRisingRing': WHATEVER THE INPUT: true; the input reads as it did. -/
def fnExactRisingRingSpec : ChangeSpec := { name := "fnExactRisingRing", fn := fun _ => fun
  | [d] => { results := [.lit (.bool true)], args := [d] }
  | _ => none }
def fnExactRisingRingRow : OpenClaim := { program := "ytaapbnhggfmlpaa", sum := "17ae1ca43b30e8f8fd25edc94ac24b838c225ef4116a2fbf5c01c2035cc7c72a", func := "loop.example/g01149/laws.FnExactRisingRing", spec := "fnExactRisingRing", unfollowed := true, recurses := true, plainKeys := false, apart := false }
def FnExactRisingRingSaid : Prop := fnExactRisingRingRow.holds Try.pinned (OpenSpec.ofChange fnExactRisingRingSpec)

/-- ITS FALSE NEIGHBOUR: 'it returns false'. Refute it at one input. -/
def fnExactRisingRingWrong : ChangeSpec := { name := "fnExactRisingRing", fn := fun _ => fun
  | [d] => { results := [.lit (.bool false)], args := [d] }
  | _ => none }
def FnExactRisingRingWrongFalsely : Prop := fnExactRisingRingRow.holds Try.pinned (OpenSpec.ofChange fnExactRisingRingWrong)

/-- 'laws.FnExactBestBetween': WHATEVER THE INPUT: true; the input reads as it did. -/
def fnExactBestBetweenSpec : ChangeSpec := { name := "fnExactBestBetween", fn := fun _ => fun
  | [d1, d2, d3] => { results := [.lit (.bool true)], args := [d1, d2, d3] }
  | _ => none }
def fnExactBestBetweenRow : OpenClaim := { program := "ytaapbnhggfmlpaa", sum := "17ae1ca43b30e8f8fd25edc94ac24b838c225ef4116a2fbf5c01c2035cc7c72a", func := "loop.example/g01149/laws.FnExactBestBetween", spec := "fnExactBestBetween", unfollowed := true, recurses := true, plainKeys := false, apart := false }
def FnExactBestBetweenSaid : Prop := fnExactBestBetweenRow.holds Try.pinned (OpenSpec.ofChange fnExactBestBetweenSpec)

/-- ITS FALSE NEIGHBOUR: 'it returns false'. Refute it at one input. -/
def fnExactBestBetweenWrong : ChangeSpec := { name := "fnExactBestBetween", fn := fun _ => fun
  | [d1, d2, d3] => { results := [.lit (.bool false)], args := [d1, d2, d3] }
  | _ => none }
def FnExactBestBetweenWrongFalsely : Prop := fnExactBestBetweenRow.holds Try.pinned (OpenSpec.ofChange fnExactBestBetweenWrong)

/-- 'laws.FnOrders': WHATEVER THE INPUT: true; the input reads as it did. -/
def fnOrdersSpec : ChangeSpec := { name := "fnOrders", fn := fun _ => fun
  | [d1, d2] => { results := [.lit (.bool true)], args := [d1, d2] }
  | _ => none }
def fnOrdersRow : OpenClaim := { program := "ytaapbnhggfmlpaa", sum := "17ae1ca43b30e8f8fd25edc94ac24b838c225ef4116a2fbf5c01c2035cc7c72a", func := "loop.example/g01149/laws.FnOrders", spec := "fnOrders", unfollowed := true, recurses := true, plainKeys := false, apart := false }
def FnOrdersSaid : Prop := fnOrdersRow.holds Try.pinned (OpenSpec.ofChange fnOrdersSpec)

/-- ITS FALSE NEIGHBOUR: 'it returns false'. Refute it at one input. -/
def fnOrdersWrong : ChangeSpec := { name := "fnOrders", fn := fun _ => fun
  | [d1, d2] => { results := [.lit (.bool false)], args := [d1, d2] }
  | _ => none }
def FnOrdersWrongFalsely : Prop := fnOrdersRow.holds Try.pinned (OpenSpec.ofChange fnOrdersWrong)

/-- 'laws.FnExactBestOrder': WHATEVER THE INPUT: true; the input reads as it did. -/
def fnExactBestOrderSpec : ChangeSpec := { name := "fnExactBestOrder", fn := fun _ => fun
  | [d1, d2] => { results := [.lit (.bool true)], args := [d1, d2] }
  | _ => none }
def fnExactBestOrderRow : OpenClaim := { program := "ytaapbnhggfmlpaa", sum := "17ae1ca43b30e8f8fd25edc94ac24b838c225ef4116a2fbf5c01c2035cc7c72a", func := "loop.example/g01149/laws.FnExactBestOrder", spec := "fnExactBestOrder", unfollowed := true, recurses := true, plainKeys := false, apart := false }
def FnExactBestOrderSaid : Prop := fnExactBestOrderRow.holds Try.pinned (OpenSpec.ofChange fnExactBestOrderSpec)

/-- ITS FALSE NEIGHBOUR: 'it returns false'. Refute it at one input. -/
def fnExactBestOrderWrong : ChangeSpec := { name := "fnExactBestOrder", fn := fun _ => fun
  | [d1, d2] => { results := [.lit (.bool false)], args := [d1, d2] }
  | _ => none }
def FnExactBestOrderWrongFalsely : Prop := fnExactBestOrderRow.holds Try.pinned (OpenSpec.ofChange fnExactBestOrderWrong)

/-- 'laws.FnExactCriticalPath': WHATEVER THE INPUT: true; the input reads as it did. -/
def fnExactCriticalPathSpec : ChangeSpec := { name := "fnExactCriticalPath", fn := fun _ => fun
  | [d] => { results := [.lit (.bool true)], args := [d] }
  | _ => none }
def fnExactCriticalPathRow : OpenClaim := { program := "ytaapbnhggfmlpaa", sum := "17ae1ca43b30e8f8fd25edc94ac24b838c225ef4116a2fbf5c01c2035cc7c72a", func := "loop.example/g01149/laws.FnExactCriticalPath", spec := "fnExactCriticalPath", unfollowed := true, recurses := true, plainKeys := false, apart := false }
def FnExactCriticalPathSaid : Prop := fnExactCriticalPathRow.holds Try.pinned (OpenSpec.ofChange fnExactCriticalPathSpec)

/-- ITS FALSE NEIGHBOUR: 'it returns false'. Refute it at one input. -/
def fnExactCriticalPathWrong : ChangeSpec := { name := "fnExactCriticalPath", fn := fun _ => fun
  | [d] => { results := [.lit (.bool false)], args := [d] }
  | _ => none }
def FnExactCriticalPathWrongFalsely : Prop := fnExactCriticalPathRow.holds Try.pinned (OpenSpec.ofChange fnExactCriticalPathWrong)

/- THE SECOND FORM. 'bulk': how many values and letters a reading holds, each counted each time it is reached (what is shared counts as often as it is met; a slice's spare places count too). A statement '..UptoSaid' is the law's where the arguments, and the package variables that the reading takes, are together of bulk at most 1048576: NARROWER than '..Said'. Prove '..Said' where nothing that the law and all that it calls make is longer than what came in: it says more and counts as full. Else prove '..UptoSaid'. A law counts once. -/
mutual
def uptoBulk {H : Type} : DataW H → Nat
  | .lit (.string bytes) => bytes.length + 1
  | .lit _ => 1
  | .nil => 1
  | .ptr d => uptoBulk d + 1
  | .slice elems spare => uptoBulkAll elems + uptoBulkAll spare + 1
  | .agg parts => uptoBulkAll parts + 1
  | .iface _ d => uptoBulk d + 1
  | .map entries => uptoBulkEntries entries + 1
  | .held _ => 1
def uptoBulkAll {H : Type} : List (DataW H) → Nat
  | [] => 0
  | d :: r => uptoBulk d + uptoBulkAll r
def uptoBulkEntries {H : Type} : List (Lit × DataW H) → Nat
  | [] => 0
  | x :: r => uptoBulkEntry x + uptoBulkEntries r
def uptoBulkEntry {H : Type} : Lit × DataW H → Nat
  | (.string bytes, d) => bytes.length + uptoBulk d + 1
  | (_, d) => uptoBulk d + 1
 end
def uptoSmall : (H : Type) → List (DataW H) → Bool := fun _ ds => decide (uptoBulkAll ds ≤ 1048576)
def OpenSpec.upto (s : _root_.Go.ChangeSpec) : _root_.Go.OpenSpec := { _root_.Go.OpenSpec.ofChange s with cond := some uptoSmall }

/-- 'laws.FnPlaces', WHERE WHAT IT READS IS OF BULK AT MOST 1048576: true; the input reads as it did. -/
def fnPlacesUptoRow : OpenClaim := { program := "ytaapbnhggfmlpaa", sum := "17ae1ca43b30e8f8fd25edc94ac24b838c225ef4116a2fbf5c01c2035cc7c72a", func := "loop.example/g01149/laws.FnPlaces", spec := "fnPlaces", unfollowed := true, recurses := true, plainKeys := false, apart := false, narrowed := true }
def FnPlacesUptoSaid : Prop := fnPlacesUptoRow.holds Try.pinned (OpenSpec.upto fnPlacesSpec)

/-- 'laws.FnExactTreeBound', WHERE WHAT IT READS IS OF BULK AT MOST 1048576: true; the input reads as it did. -/
def fnExactTreeBoundUptoRow : OpenClaim := { program := "ytaapbnhggfmlpaa", sum := "17ae1ca43b30e8f8fd25edc94ac24b838c225ef4116a2fbf5c01c2035cc7c72a", func := "loop.example/g01149/laws.FnExactTreeBound", spec := "fnExactTreeBound", plainKeys := false, apart := false, narrowed := true }
def FnExactTreeBoundUptoSaid : Prop := fnExactTreeBoundUptoRow.holds Try.pinned (OpenSpec.upto fnExactTreeBoundSpec)

/-- 'laws.FnCritical', WHERE WHAT IT READS IS OF BULK AT MOST 1048576: true; the input reads as it did. -/
def fnCriticalUptoRow : OpenClaim := { program := "ytaapbnhggfmlpaa", sum := "17ae1ca43b30e8f8fd25edc94ac24b838c225ef4116a2fbf5c01c2035cc7c72a", func := "loop.example/g01149/laws.FnCritical", spec := "fnCritical", unfollowed := true, recurses := true, plainKeys := false, apart := false, narrowed := true }
def FnCriticalUptoSaid : Prop := fnCriticalUptoRow.holds Try.pinned (OpenSpec.upto fnCriticalSpec)

/-- 'laws.FnBetween', WHERE WHAT IT READS IS OF BULK AT MOST 1048576: true; the input reads as it did. -/
def fnBetweenUptoRow : OpenClaim := { program := "ytaapbnhggfmlpaa", sum := "17ae1ca43b30e8f8fd25edc94ac24b838c225ef4116a2fbf5c01c2035cc7c72a", func := "loop.example/g01149/laws.FnBetween", spec := "fnBetween", unfollowed := true, recurses := true, plainKeys := false, apart := false, narrowed := true }
def FnBetweenUptoSaid : Prop := fnBetweenUptoRow.holds Try.pinned (OpenSpec.upto fnBetweenSpec)

/-- 'laws.FnCountedOrders', WHERE WHAT IT READS IS OF BULK AT MOST 1048576: true; the input reads as it did. -/
def fnCountedOrdersUptoRow : OpenClaim := { program := "ytaapbnhggfmlpaa", sum := "17ae1ca43b30e8f8fd25edc94ac24b838c225ef4116a2fbf5c01c2035cc7c72a", func := "loop.example/g01149/laws.FnCountedOrders", spec := "fnCountedOrders", unfollowed := true, recurses := true, plainKeys := false, apart := false, narrowed := true }
def FnCountedOrdersUptoSaid : Prop := fnCountedOrdersUptoRow.holds Try.pinned (OpenSpec.upto fnCountedOrdersSpec)

/-- 'laws.FnExactRisingRing', WHERE WHAT IT READS IS OF BULK AT MOST 1048576: true; the input reads as it did. -/
def fnExactRisingRingUptoRow : OpenClaim := { program := "ytaapbnhggfmlpaa", sum := "17ae1ca43b30e8f8fd25edc94ac24b838c225ef4116a2fbf5c01c2035cc7c72a", func := "loop.example/g01149/laws.FnExactRisingRing", spec := "fnExactRisingRing", unfollowed := true, recurses := true, plainKeys := false, apart := false, narrowed := true }
def FnExactRisingRingUptoSaid : Prop := fnExactRisingRingUptoRow.holds Try.pinned (OpenSpec.upto fnExactRisingRingSpec)

/-- 'laws.FnExactBestBetween', WHERE WHAT IT READS IS OF BULK AT MOST 1048576: true; the input reads as it did. -/
def fnExactBestBetweenUptoRow : OpenClaim := { program := "ytaapbnhggfmlpaa", sum := "17ae1ca43b30e8f8fd25edc94ac24b838c225ef4116a2fbf5c01c2035cc7c72a", func := "loop.example/g01149/laws.FnExactBestBetween", spec := "fnExactBestBetween", unfollowed := true, recurses := true, plainKeys := false, apart := false, narrowed := true }
def FnExactBestBetweenUptoSaid : Prop := fnExactBestBetweenUptoRow.holds Try.pinned (OpenSpec.upto fnExactBestBetweenSpec)

/-- 'laws.FnOrders', WHERE WHAT IT READS IS OF BULK AT MOST 1048576: true; the input reads as it did. -/
def fnOrdersUptoRow : OpenClaim := { program := "ytaapbnhggfmlpaa", sum := "17ae1ca43b30e8f8fd25edc94ac24b838c225ef4116a2fbf5c01c2035cc7c72a", func := "loop.example/g01149/laws.FnOrders", spec := "fnOrders", unfollowed := true, recurses := true, plainKeys := false, apart := false, narrowed := true }
def FnOrdersUptoSaid : Prop := fnOrdersUptoRow.holds Try.pinned (OpenSpec.upto fnOrdersSpec)

/-- 'laws.FnExactBestOrder', WHERE WHAT IT READS IS OF BULK AT MOST 1048576: true; the input reads as it did. -/
def fnExactBestOrderUptoRow : OpenClaim := { program := "ytaapbnhggfmlpaa", sum := "17ae1ca43b30e8f8fd25edc94ac24b838c225ef4116a2fbf5c01c2035cc7c72a", func := "loop.example/g01149/laws.FnExactBestOrder", spec := "fnExactBestOrder", unfollowed := true, recurses := true, plainKeys := false, apart := false, narrowed := true }
def FnExactBestOrderUptoSaid : Prop := fnExactBestOrderUptoRow.holds Try.pinned (OpenSpec.upto fnExactBestOrderSpec)

/-- 'laws.FnExactCriticalPath', WHERE WHAT IT READS IS OF BULK AT MOST 1048576: true; the input reads as it did. -/
def fnExactCriticalPathUptoRow : OpenClaim := { program := "ytaapbnhggfmlpaa", sum := "17ae1ca43b30e8f8fd25edc94ac24b838c225ef4116a2fbf5c01c2035cc7c72a", func := "loop.example/g01149/laws.FnExactCriticalPath", spec := "fnExactCriticalPath", unfollowed := true, recurses := true, plainKeys := false, apart := false, narrowed := true }
def FnExactCriticalPathUptoSaid : Prop := fnExactCriticalPathUptoRow.holds Try.pinned (OpenSpec.upto fnExactCriticalPathSpec)

end Rows
end Go.Proofs.Ytaapbnhggfmlpaa
