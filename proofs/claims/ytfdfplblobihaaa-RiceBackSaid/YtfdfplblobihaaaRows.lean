/-
  No cell of these rows narrows 'for every input' (looked for: loops, veiled, ifaces, maps, wideKeys, modest, calm, conditions, laid).
  DERIVED. THE GIVEN ROWS OF THIS SEAT. 4 by the template 'for every input the law returns true; each argument reads behind the call as it read before'; 0 by the template 'total and deterministic' (their statements: YtfdfplblobihaaaTotals.lean).
  GIVEN WITH THE SEED: the statements are not yours to turn. If you find one false, say at which input.
  Laid BY PROGRAM, IN A SANDBOX (cutbox-rows.mjs): the forced cells as the released guide's own fill.sh prints them over the translation e2c7a191aef08dc7… (all of the seat's roots in one cut). By AI agents, Wed Nov 11 2026. No macro, syntax, notation, axiom, sorry.
-/
import Derived.Test.YtfdfplblobihaaaChecked
import GoSem.Claim
import GoSem.ClaimJoined
import GoSem.ClaimMapViews
import Derived.JoinedTies
import Derived.KernelRfl
namespace Go.Proofs.Ytfdfplblobihaaa
/- THE CELL 'sum', in the pinned program and in every row, IS THE sha256 OF THE DUMP (.gsa) THAT YtfdfplblobihaaaProg.lean LOADS. Nothing in Lean hashes anything: it is a label: what it is worth is what the hold of that sum in a sandbox is worth. -/
noncomputable def Try.pinned : Pinned := { name := "ytfdfplblobihaaa", sum := "e2c7a191aef08dc793e310c20e5dcbf7988f06771a593a7cf1238b0f939b0dbe", checked := Try.checked }
namespace Rows
def none {H : Type} : Left H := { results := [], args := [] }

/-- 'sporranlaw11.RiceWrites': WHATEVER THE INPUT: true; the input reads as it did. -/
def riceWritesSpec : ChangeSpec := { name := "riceWrites", fn := fun _ => fun
  | [d] => { results := [.lit (.bool true)], args := [d] }
  | _ => none }
def riceWritesRow : OpenClaim := { program := "ytfdfplblobihaaa", sum := "e2c7a191aef08dc793e310c20e5dcbf7988f06771a593a7cf1238b0f939b0dbe", func := "sporran/sporranlaw11.RiceWrites", spec := "riceWrites", apart := false }
def RiceWritesSaid : Prop := riceWritesRow.holds Try.pinned (OpenSpec.ofChange riceWritesSpec)

/-- ITS FALSE NEIGHBOUR: 'it returns false'. Refute it at one input. -/
def riceWritesWrong : ChangeSpec := { name := "riceWrites", fn := fun _ => fun
  | [d] => { results := [.lit (.bool false)], args := [d] }
  | _ => none }
def RiceWritesWrongFalsely : Prop := riceWritesRow.holds Try.pinned (OpenSpec.ofChange riceWritesWrong)

/-- 'sporranlaw11.RiceBits': WHATEVER THE INPUT: true; the input reads as it did. -/
def riceBitsSpec : ChangeSpec := { name := "riceBits", fn := fun _ => fun
  | [d] => { results := [.lit (.bool true)], args := [d] }
  | _ => none }
def riceBitsRow : OpenClaim := { program := "ytfdfplblobihaaa", sum := "e2c7a191aef08dc793e310c20e5dcbf7988f06771a593a7cf1238b0f939b0dbe", func := "sporran/sporranlaw11.RiceBits", spec := "riceBits", apart := false }
def RiceBitsSaid : Prop := riceBitsRow.holds Try.pinned (OpenSpec.ofChange riceBitsSpec)

/-- ITS FALSE NEIGHBOUR: 'it returns false'. Refute it at one input. -/
def riceBitsWrong : ChangeSpec := { name := "riceBits", fn := fun _ => fun
  | [d] => { results := [.lit (.bool false)], args := [d] }
  | _ => none }
def RiceBitsWrongFalsely : Prop := riceBitsRow.holds Try.pinned (OpenSpec.ofChange riceBitsWrong)

/-- 'sporranlaw11.RiceNobody': WHATEVER THE INPUT: true; the input reads as it did. -/
def riceNobodySpec : ChangeSpec := { name := "riceNobody", fn := fun _ => fun
  | [d] => { results := [.lit (.bool true)], args := [d] }
  | _ => none }
def riceNobodyRow : OpenClaim := { program := "ytfdfplblobihaaa", sum := "e2c7a191aef08dc793e310c20e5dcbf7988f06771a593a7cf1238b0f939b0dbe", func := "sporran/sporranlaw11.RiceNobody", spec := "riceNobody", apart := false }
def RiceNobodySaid : Prop := riceNobodyRow.holds Try.pinned (OpenSpec.ofChange riceNobodySpec)

/-- ITS FALSE NEIGHBOUR: 'it returns false'. Refute it at one input. -/
def riceNobodyWrong : ChangeSpec := { name := "riceNobody", fn := fun _ => fun
  | [d] => { results := [.lit (.bool false)], args := [d] }
  | _ => none }
def RiceNobodyWrongFalsely : Prop := riceNobodyRow.holds Try.pinned (OpenSpec.ofChange riceNobodyWrong)

/-- 'sporranlaw11.RiceBack': WHATEVER THE INPUT: true; the input reads as it did. -/
def riceBackSpec : ChangeSpec := { name := "riceBack", fn := fun _ => fun
  | [d1, d2] => { results := [.lit (.bool true)], args := [d1, d2] }
  | _ => none }
def riceBackRow : OpenClaim := { program := "ytfdfplblobihaaa", sum := "e2c7a191aef08dc793e310c20e5dcbf7988f06771a593a7cf1238b0f939b0dbe", func := "sporran/sporranlaw11.RiceBack", spec := "riceBack", apart := false }
def RiceBackSaid : Prop := riceBackRow.holds Try.pinned (OpenSpec.ofChange riceBackSpec)

/-- ITS FALSE NEIGHBOUR: 'it returns false'. Refute it at one input. -/
def riceBackWrong : ChangeSpec := { name := "riceBack", fn := fun _ => fun
  | [d1, d2] => { results := [.lit (.bool false)], args := [d1, d2] }
  | _ => none }
def RiceBackWrongFalsely : Prop := riceBackRow.holds Try.pinned (OpenSpec.ofChange riceBackWrong)

/- THE SECOND FORM. 'bulk': how many values and letters a reading holds, each counted each time it is reached (what is shared counts as often as it is met; a slice's spare places count too). A statement '..UptoSaid' is the law's where the arguments, and the package variables that the reading takes, are together of bulk at most 1048576: NARROWER than '..Said'. Prove '..Said' where nothing that the law and all that it calls make is longer than what came in: it says more and counts as full. Else prove '..UptoSaid'. A law counts once. -/
mutual
def uptoBulk {H : Type} : DataW H → Nat
  | .lit (.string bytes) => bytes.length + 1
  | .lit _ => 1
  | .nil => 1
  | .ptr d => uptoBulk d + 1
  | .slice elems spare => uptoBulkAll elems + uptoBulkAll spare + 1
  | .agg parts => uptoBulkAll parts + 1
  | .iface _ d => uptoBulk d + 1
  | .map entries => uptoBulkEntries entries + 1
  | .held _ => 1
def uptoBulkAll {H : Type} : List (DataW H) → Nat
  | [] => 0
  | d :: r => uptoBulk d + uptoBulkAll r
def uptoBulkEntries {H : Type} : List (Lit × DataW H) → Nat
  | [] => 0
  | x :: r => uptoBulkEntry x + uptoBulkEntries r
def uptoBulkEntry {H : Type} : Lit × DataW H → Nat
  | (.string bytes, d) => bytes.length + uptoBulk d + 1
  | (_, d) => uptoBulk d + 1
 end
def uptoSmall : (H : Type) → List (DataW H) → Bool := fun _ ds => decide (uptoBulkAll ds ≤ 1048576)
def OpenSpec.upto (s : _root_.Go.ChangeSpec) : _root_.Go.OpenSpec := { _root_.Go.OpenSpec.ofChange s with cond := some uptoSmall }

/-- 'sporranlaw11.RiceWrites', WHERE WHAT IT READS IS OF BULK AT MOST 1048576: true; the input reads as it did. -/
def riceWritesUptoRow : OpenClaim := { program := "ytfdfplblobihaaa", sum := "e2c7a191aef08dc793e310c20e5dcbf7988f06771a593a7cf1238b0f939b0dbe", func := "sporran/sporranlaw11.RiceWrites", spec := "riceWrites", apart := false, narrowed := true }
def RiceWritesUptoSaid : Prop := riceWritesUptoRow.holds Try.pinned (OpenSpec.upto riceWritesSpec)

/-- 'sporranlaw11.RiceBits', WHERE WHAT IT READS IS OF BULK AT MOST 1048576: true; the input reads as it did. -/
def riceBitsUptoRow : OpenClaim := { program := "ytfdfplblobihaaa", sum := "e2c7a191aef08dc793e310c20e5dcbf7988f06771a593a7cf1238b0f939b0dbe", func := "sporran/sporranlaw11.RiceBits", spec := "riceBits", apart := false, narrowed := true }
def RiceBitsUptoSaid : Prop := riceBitsUptoRow.holds Try.pinned (OpenSpec.upto riceBitsSpec)

/-- 'sporranlaw11.RiceNobody', WHERE WHAT IT READS IS OF BULK AT MOST 1048576: true; the input reads as it did. -/
def riceNobodyUptoRow : OpenClaim := { program := "ytfdfplblobihaaa", sum := "e2c7a191aef08dc793e310c20e5dcbf7988f06771a593a7cf1238b0f939b0dbe", func := "sporran/sporranlaw11.RiceNobody", spec := "riceNobody", apart := false, narrowed := true }
def RiceNobodyUptoSaid : Prop := riceNobodyUptoRow.holds Try.pinned (OpenSpec.upto riceNobodySpec)

/-- 'sporranlaw11.RiceBack', WHERE WHAT IT READS IS OF BULK AT MOST 1048576: true; the input reads as it did. -/
def riceBackUptoRow : OpenClaim := { program := "ytfdfplblobihaaa", sum := "e2c7a191aef08dc793e310c20e5dcbf7988f06771a593a7cf1238b0f939b0dbe", func := "sporran/sporranlaw11.RiceBack", spec := "riceBack", apart := false, narrowed := true }
def RiceBackUptoSaid : Prop := riceBackUptoRow.holds Try.pinned (OpenSpec.upto riceBackSpec)

end Rows
end Go.Proofs.Ytfdfplblobihaaa
