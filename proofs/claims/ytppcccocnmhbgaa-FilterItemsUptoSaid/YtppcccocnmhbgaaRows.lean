/-
  No cell of these rows narrows 'for every input' (looked for: loops, veiled, ifaces, maps, wideKeys, modest, calm, conditions, laid).
  DERIVED. THE GIVEN ROWS OF THIS SEAT. 7 by the template 'for every input the law returns true; each argument reads behind the call as it read before'; 0 by the template 'total and deterministic' (their statements: YtppcccocnmhbgaaTotals.lean).
  GIVEN WITH THE SEED: the statements are not yours to turn. If you find one false, say at which input.
  Laid BY PROGRAM, IN A SANDBOX (cutbox-rows.mjs): the forced cells as the released guide's own fill.sh prints them over the translation d79ad12e405347a8… (all of the seat's roots in one cut). By AI agents, Wed Nov 11 2026. No macro, syntax, notation, axiom, sorry.
-/
import Derived.Test.YtppcccocnmhbgaaChecked
import GoSem.Claim
import GoSem.ClaimJoined
import GoSem.ClaimMapViews
import Derived.JoinedTies
import Derived.KernelRfl
namespace Go.Proofs.Ytppcccocnmhbgaa
/- THE CELL 'sum', in the pinned program and in every row, IS THE sha256 OF THE DUMP (.gsa) THAT YtppcccocnmhbgaaProg.lean LOADS. Nothing in Lean hashes anything: it is a label: what it is worth is what the hold of that sum in a sandbox is worth. -/
noncomputable def Try.pinned : Pinned := { name := "ytppcccocnmhbgaa", sum := "d79ad12e405347a8d9f1daf7096ebd26cf812347a2da863fe8008d7502a27f5c", checked := Try.checked }
namespace Rows
def none {H : Type} : Left H := { results := [], args := [] }

/-- 'sporranlaw12.FilterBuilds': WHATEVER THE INPUT: true; the input reads as it did. -/
def filterBuildsSpec : ChangeSpec := { name := "filterBuilds", fn := fun _ => fun
  | [d1, d2] => { results := [.lit (.bool true)], args := [d1, d2] }
  | _ => none }
def filterBuildsRow : OpenClaim := { program := "ytppcccocnmhbgaa", sum := "d79ad12e405347a8d9f1daf7096ebd26cf812347a2da863fe8008d7502a27f5c", func := "sporran/sporranlaw12.FilterBuilds", spec := "filterBuilds", unfollowed := true, recurses := true, apart := false }
def FilterBuildsSaid : Prop := filterBuildsRow.holds Try.pinned (OpenSpec.ofChange filterBuildsSpec)

/-- ITS FALSE NEIGHBOUR: 'it returns false'. Refute it at one input. -/
def filterBuildsWrong : ChangeSpec := { name := "filterBuilds", fn := fun _ => fun
  | [d1, d2] => { results := [.lit (.bool false)], args := [d1, d2] }
  | _ => none }
def FilterBuildsWrongFalsely : Prop := filterBuildsRow.holds Try.pinned (OpenSpec.ofChange filterBuildsWrong)

/-- 'sporranlaw12.FilterOrders': WHATEVER THE INPUT: true; the input reads as it did. -/
def filterOrdersSpec : ChangeSpec := { name := "filterOrders", fn := fun _ => fun
  | [d1, d2] => { results := [.lit (.bool true)], args := [d1, d2] }
  | _ => none }
def filterOrdersRow : OpenClaim := { program := "ytppcccocnmhbgaa", sum := "d79ad12e405347a8d9f1daf7096ebd26cf812347a2da863fe8008d7502a27f5c", func := "sporran/sporranlaw12.FilterOrders", spec := "filterOrders", unfollowed := true, recurses := true, apart := false }
def FilterOrdersSaid : Prop := filterOrdersRow.holds Try.pinned (OpenSpec.ofChange filterOrdersSpec)

/-- ITS FALSE NEIGHBOUR: 'it returns false'. Refute it at one input. -/
def filterOrdersWrong : ChangeSpec := { name := "filterOrders", fn := fun _ => fun
  | [d1, d2] => { results := [.lit (.bool false)], args := [d1, d2] }
  | _ => none }
def FilterOrdersWrongFalsely : Prop := filterOrdersRow.holds Try.pinned (OpenSpec.ofChange filterOrdersWrong)

/-- 'sporranlaw12.FilterItems': WHATEVER THE INPUT: true; the input reads as it did. -/
def filterItemsSpec : ChangeSpec := { name := "filterItems", fn := fun _ => fun
  | [d1, d2] => { results := [.lit (.bool true)], args := [d1, d2] }
  | _ => none }
def filterItemsRow : OpenClaim := { program := "ytppcccocnmhbgaa", sum := "d79ad12e405347a8d9f1daf7096ebd26cf812347a2da863fe8008d7502a27f5c", func := "sporran/sporranlaw12.FilterItems", spec := "filterItems", unfollowed := true, recurses := true, apart := false }
def FilterItemsSaid : Prop := filterItemsRow.holds Try.pinned (OpenSpec.ofChange filterItemsSpec)

/-- ITS FALSE NEIGHBOUR: 'it returns false'. Refute it at one input. -/
def filterItemsWrong : ChangeSpec := { name := "filterItems", fn := fun _ => fun
  | [d1, d2] => { results := [.lit (.bool false)], args := [d1, d2] }
  | _ => none }
def FilterItemsWrongFalsely : Prop := filterItemsRow.holds Try.pinned (OpenSpec.ofChange filterItemsWrong)

/-- 'sporranlaw12.FilterRises': WHATEVER THE INPUT: true; the input reads as it did. -/
def filterRisesSpec : ChangeSpec := { name := "filterRises", fn := fun _ => fun
  | [d1, d2] => { results := [.lit (.bool true)], args := [d1, d2] }
  | _ => none }
def filterRisesRow : OpenClaim := { program := "ytppcccocnmhbgaa", sum := "d79ad12e405347a8d9f1daf7096ebd26cf812347a2da863fe8008d7502a27f5c", func := "sporran/sporranlaw12.FilterRises", spec := "filterRises", unfollowed := true, recurses := true, apart := false }
def FilterRisesSaid : Prop := filterRisesRow.holds Try.pinned (OpenSpec.ofChange filterRisesSpec)

/-- ITS FALSE NEIGHBOUR: 'it returns false'. Refute it at one input. -/
def filterRisesWrong : ChangeSpec := { name := "filterRises", fn := fun _ => fun
  | [d1, d2] => { results := [.lit (.bool false)], args := [d1, d2] }
  | _ => none }
def FilterRisesWrongFalsely : Prop := filterRisesRow.holds Try.pinned (OpenSpec.ofChange filterRisesWrong)

/-- 'sporranlaw12.FilterValues': WHATEVER THE INPUT: true; the input reads as it did. -/
def filterValuesSpec : ChangeSpec := { name := "filterValues", fn := fun _ => fun
  | [d] => { results := [.lit (.bool true)], args := [d] }
  | _ => none }
def filterValuesRow : OpenClaim := { program := "ytppcccocnmhbgaa", sum := "d79ad12e405347a8d9f1daf7096ebd26cf812347a2da863fe8008d7502a27f5c", func := "sporran/sporranlaw12.FilterValues", spec := "filterValues", unfollowed := true, recurses := true, apart := false }
def FilterValuesSaid : Prop := filterValuesRow.holds Try.pinned (OpenSpec.ofChange filterValuesSpec)

/-- ITS FALSE NEIGHBOUR: 'it returns false'. Refute it at one input. -/
def filterValuesWrong : ChangeSpec := { name := "filterValues", fn := fun _ => fun
  | [d] => { results := [.lit (.bool false)], args := [d] }
  | _ => none }
def FilterValuesWrongFalsely : Prop := filterValuesRow.holds Try.pinned (OpenSpec.ofChange filterValuesWrong)

/-- 'sporranlaw12.FilterMatches': WHATEVER THE INPUT: true; the input reads as it did. -/
def filterMatchesSpec : ChangeSpec := { name := "filterMatches", fn := fun _ => fun
  | [d1, d2, d3] => { results := [.lit (.bool true)], args := [d1, d2, d3] }
  | _ => none }
def filterMatchesRow : OpenClaim := { program := "ytppcccocnmhbgaa", sum := "d79ad12e405347a8d9f1daf7096ebd26cf812347a2da863fe8008d7502a27f5c", func := "sporran/sporranlaw12.FilterMatches", spec := "filterMatches", unfollowed := true, recurses := true, apart := false }
def FilterMatchesSaid : Prop := filterMatchesRow.holds Try.pinned (OpenSpec.ofChange filterMatchesSpec)

/-- ITS FALSE NEIGHBOUR: 'it returns false'. Refute it at one input. -/
def filterMatchesWrong : ChangeSpec := { name := "filterMatches", fn := fun _ => fun
  | [d1, d2, d3] => { results := [.lit (.bool false)], args := [d1, d2, d3] }
  | _ => none }
def FilterMatchesWrongFalsely : Prop := filterMatchesRow.holds Try.pinned (OpenSpec.ofChange filterMatchesWrong)

/-- 'sporranlaw12.FilterHolds': WHATEVER THE INPUT: true; the input reads as it did. -/
def filterHoldsSpec : ChangeSpec := { name := "filterHolds", fn := fun _ => fun
  | [d1, d2, d3] => { results := [.lit (.bool true)], args := [d1, d2, d3] }
  | _ => none }
def filterHoldsRow : OpenClaim := { program := "ytppcccocnmhbgaa", sum := "d79ad12e405347a8d9f1daf7096ebd26cf812347a2da863fe8008d7502a27f5c", func := "sporran/sporranlaw12.FilterHolds", spec := "filterHolds", unfollowed := true, recurses := true, apart := false }
def FilterHoldsSaid : Prop := filterHoldsRow.holds Try.pinned (OpenSpec.ofChange filterHoldsSpec)

/-- ITS FALSE NEIGHBOUR: 'it returns false'. Refute it at one input. -/
def filterHoldsWrong : ChangeSpec := { name := "filterHolds", fn := fun _ => fun
  | [d1, d2, d3] => { results := [.lit (.bool false)], args := [d1, d2, d3] }
  | _ => none }
def FilterHoldsWrongFalsely : Prop := filterHoldsRow.holds Try.pinned (OpenSpec.ofChange filterHoldsWrong)

/- THE SECOND FORM. 'bulk': how many values and letters a reading holds, each counted each time it is reached (what is shared counts as often as it is met; a slice's spare places count too). A statement '..UptoSaid' is the law's where the arguments, and the package variables that the reading takes, are together of bulk at most 1048576: NARROWER than '..Said'. Prove '..Said' where nothing that the law and all that it calls make is longer than what came in: it says more and counts as full. Else prove '..UptoSaid'. A law counts once. -/
mutual
def uptoBulk {H : Type} : DataW H → Nat
  | .lit (.string bytes) => bytes.length + 1
  | .lit _ => 1
  | .nil => 1
  | .ptr d => uptoBulk d + 1
  | .slice elems spare => uptoBulkAll elems + uptoBulkAll spare + 1
  | .agg parts => uptoBulkAll parts + 1
  | .iface _ d => uptoBulk d + 1
  | .map entries => uptoBulkEntries entries + 1
  | .held _ => 1
def uptoBulkAll {H : Type} : List (DataW H) → Nat
  | [] => 0
  | d :: r => uptoBulk d + uptoBulkAll r
def uptoBulkEntries {H : Type} : List (Lit × DataW H) → Nat
  | [] => 0
  | x :: r => uptoBulkEntry x + uptoBulkEntries r
def uptoBulkEntry {H : Type} : Lit × DataW H → Nat
  | (.string bytes, d) => bytes.length + uptoBulk d + 1
  | (_, d) => uptoBulk d + 1
 end
def uptoSmall : (H : Type) → List (DataW H) → Bool := fun _ ds => decide (uptoBulkAll ds ≤ 1048576)
def OpenSpec.upto (s : _root_.Go.ChangeSpec) : _root_.Go.OpenSpec := { _root_.Go.OpenSpec.ofChange s with cond := some uptoSmall }

/-- 'sporranlaw12.FilterBuilds', WHERE WHAT IT READS IS OF BULK AT MOST 1048576: true; the input reads as it did. -/
def filterBuildsUptoRow : OpenClaim := { program := "ytppcccocnmhbgaa", sum := "d79ad12e405347a8d9f1daf7096ebd26cf812347a2da863fe8008d7502a27f5c", func := "sporran/sporranlaw12.FilterBuilds", spec := "filterBuilds", unfollowed := true, recurses := true, apart := false, narrowed := true }
def FilterBuildsUptoSaid : Prop := filterBuildsUptoRow.holds Try.pinned (OpenSpec.upto filterBuildsSpec)

/-- 'sporranlaw12.FilterOrders', WHERE WHAT IT READS IS OF BULK AT MOST 1048576: true; the input reads as it did. -/
def filterOrdersUptoRow : OpenClaim := { program := "ytppcccocnmhbgaa", sum := "d79ad12e405347a8d9f1daf7096ebd26cf812347a2da863fe8008d7502a27f5c", func := "sporran/sporranlaw12.FilterOrders", spec := "filterOrders", unfollowed := true, recurses := true, apart := false, narrowed := true }
def FilterOrdersUptoSaid : Prop := filterOrdersUptoRow.holds Try.pinned (OpenSpec.upto filterOrdersSpec)

/-- 'sporranlaw12.FilterItems', WHERE WHAT IT READS IS OF BULK AT MOST 1048576: true; the input reads as it did. -/
def filterItemsUptoRow : OpenClaim := { program := "ytppcccocnmhbgaa", sum := "d79ad12e405347a8d9f1daf7096ebd26cf812347a2da863fe8008d7502a27f5c", func := "sporran/sporranlaw12.FilterItems", spec := "filterItems", unfollowed := true, recurses := true, apart := false, narrowed := true }
def FilterItemsUptoSaid : Prop := filterItemsUptoRow.holds Try.pinned (OpenSpec.upto filterItemsSpec)

/-- 'sporranlaw12.FilterRises', WHERE WHAT IT READS IS OF BULK AT MOST 1048576: true; the input reads as it did. -/
def filterRisesUptoRow : OpenClaim := { program := "ytppcccocnmhbgaa", sum := "d79ad12e405347a8d9f1daf7096ebd26cf812347a2da863fe8008d7502a27f5c", func := "sporran/sporranlaw12.FilterRises", spec := "filterRises", unfollowed := true, recurses := true, apart := false, narrowed := true }
def FilterRisesUptoSaid : Prop := filterRisesUptoRow.holds Try.pinned (OpenSpec.upto filterRisesSpec)

/-- 'sporranlaw12.FilterValues', WHERE WHAT IT READS IS OF BULK AT MOST 1048576: true; the input reads as it did. -/
def filterValuesUptoRow : OpenClaim := { program := "ytppcccocnmhbgaa", sum := "d79ad12e405347a8d9f1daf7096ebd26cf812347a2da863fe8008d7502a27f5c", func := "sporran/sporranlaw12.FilterValues", spec := "filterValues", unfollowed := true, recurses := true, apart := false, narrowed := true }
def FilterValuesUptoSaid : Prop := filterValuesUptoRow.holds Try.pinned (OpenSpec.upto filterValuesSpec)

/-- 'sporranlaw12.FilterMatches', WHERE WHAT IT READS IS OF BULK AT MOST 1048576: true; the input reads as it did. -/
def filterMatchesUptoRow : OpenClaim := { program := "ytppcccocnmhbgaa", sum := "d79ad12e405347a8d9f1daf7096ebd26cf812347a2da863fe8008d7502a27f5c", func := "sporran/sporranlaw12.FilterMatches", spec := "filterMatches", unfollowed := true, recurses := true, apart := false, narrowed := true }
def FilterMatchesUptoSaid : Prop := filterMatchesUptoRow.holds Try.pinned (OpenSpec.upto filterMatchesSpec)

/-- 'sporranlaw12.FilterHolds', WHERE WHAT IT READS IS OF BULK AT MOST 1048576: true; the input reads as it did. -/
def filterHoldsUptoRow : OpenClaim := { program := "ytppcccocnmhbgaa", sum := "d79ad12e405347a8d9f1daf7096ebd26cf812347a2da863fe8008d7502a27f5c", func := "sporran/sporranlaw12.FilterHolds", spec := "filterHolds", unfollowed := true, recurses := true, apart := false, narrowed := true }
def FilterHoldsUptoSaid : Prop := filterHoldsUptoRow.holds Try.pinned (OpenSpec.upto filterHoldsSpec)

end Rows
end Go.Proofs.Ytppcccocnmhbgaa
