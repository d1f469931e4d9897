/-
  No cell of these rows narrows 'for every input' (looked for: loops, veiled, ifaces, maps, wideKeys, modest, calm, conditions, laid).
  DERIVED. THE GIVEN ROWS OF THIS SEAT. 5 by the template 'for every input the law returns true; each argument reads behind the call as it read before'; 0 by the template 'total and deterministic' (their statements: YtfeljjbelnlojaaTotals.lean).
  GIVEN WITH THE SEED: the statements are not yours to turn. If you find one false, say at which input.
  Laid BY PROGRAM, IN A SANDBOX (cutbox-rows.mjs): the forced cells as the released guide's own fill.sh prints them over the translation beba1667d45e115d… (all of the seat's roots in one cut). By AI agents, Wed Nov 11 2026. No macro, syntax, notation, axiom, sorry.
-/
import Derived.Test.YtfeljjbelnlojaaChecked
import GoSem.Claim
import GoSem.ClaimJoined
import GoSem.ClaimMapViews
import Derived.JoinedTies
import Derived.KernelRfl
namespace Go.Proofs.Ytfeljjbelnlojaa
/- THE CELL 'sum', in the pinned program and in every row, IS THE sha256 OF THE DUMP (.gsa) THAT YtfeljjbelnlojaaProg.lean LOADS. Nothing in Lean hashes anything: it is a label: what it is worth is what the hold of that sum in a sandbox is worth. -/
noncomputable def Try.pinned : Pinned := { name := "ytfeljjbelnlojaa", sum := "beba1667d45e115d76feef3dc3d107168a1532f87c7331f4345e78e817f6271e", checked := Try.checked }
namespace Rows
def none {H : Type} : Left H := { results := [], args := [] }

/-- 'sporranlaw15.TapeFull': WHATEVER THE INPUT: true; the input reads as it did. -/
def tapeFullSpec : ChangeSpec := { name := "tapeFull", fn := fun _ => fun
  | [d1, d2] => { results := [.lit (.bool true)], args := [d1, d2] }
  | _ => none }
def tapeFullRow : OpenClaim := { program := "ytfeljjbelnlojaa", sum := "beba1667d45e115d76feef3dc3d107168a1532f87c7331f4345e78e817f6271e", func := "sporran/sporranlaw15.TapeFull", spec := "tapeFull", apart := false }
def TapeFullSaid : Prop := tapeFullRow.holds Try.pinned (OpenSpec.ofChange tapeFullSpec)

/-- ITS FALSE NEIGHBOUR: 'it returns false'. Refute it at one input. -/
def tapeFullWrong : ChangeSpec := { name := "tapeFull", fn := fun _ => fun
  | [d1, d2] => { results := [.lit (.bool false)], args := [d1, d2] }
  | _ => none }
def TapeFullWrongFalsely : Prop := tapeFullRow.holds Try.pinned (OpenSpec.ofChange tapeFullWrong)

/-- 'sporranlaw15.TapeStays': WHATEVER THE INPUT: true; the input reads as it did. -/
def tapeStaysSpec : ChangeSpec := { name := "tapeStays", fn := fun _ => fun
  | [d1, d2, d3] => { results := [.lit (.bool true)], args := [d1, d2, d3] }
  | _ => none }
def tapeStaysRow : OpenClaim := { program := "ytfeljjbelnlojaa", sum := "beba1667d45e115d76feef3dc3d107168a1532f87c7331f4345e78e817f6271e", func := "sporran/sporranlaw15.TapeStays", spec := "tapeStays", apart := false }
def TapeStaysSaid : Prop := tapeStaysRow.holds Try.pinned (OpenSpec.ofChange tapeStaysSpec)

/-- ITS FALSE NEIGHBOUR: 'it returns false'. Refute it at one input. -/
def tapeStaysWrong : ChangeSpec := { name := "tapeStays", fn := fun _ => fun
  | [d1, d2, d3] => { results := [.lit (.bool false)], args := [d1, d2, d3] }
  | _ => none }
def TapeStaysWrongFalsely : Prop := tapeStaysRow.holds Try.pinned (OpenSpec.ofChange tapeStaysWrong)

/-- 'sporranlaw15.TapeFuse': WHATEVER THE INPUT: true; the input reads as it did. -/
def tapeFuseSpec : ChangeSpec := { name := "tapeFuse", fn := fun _ => fun
  | [d1, d2] => { results := [.lit (.bool true)], args := [d1, d2] }
  | _ => none }
def tapeFuseRow : OpenClaim := { program := "ytfeljjbelnlojaa", sum := "beba1667d45e115d76feef3dc3d107168a1532f87c7331f4345e78e817f6271e", func := "sporran/sporranlaw15.TapeFuse", spec := "tapeFuse", apart := false }
def TapeFuseSaid : Prop := tapeFuseRow.holds Try.pinned (OpenSpec.ofChange tapeFuseSpec)

/-- ITS FALSE NEIGHBOUR: 'it returns false'. Refute it at one input. -/
def tapeFuseWrong : ChangeSpec := { name := "tapeFuse", fn := fun _ => fun
  | [d1, d2] => { results := [.lit (.bool false)], args := [d1, d2] }
  | _ => none }
def TapeFuseWrongFalsely : Prop := tapeFuseRow.holds Try.pinned (OpenSpec.ofChange tapeFuseWrong)

/-- 'sporranlaw15.TapeNobody': WHATEVER THE INPUT: true; the input reads as it did. -/
def tapeNobodySpec : ChangeSpec := { name := "tapeNobody", fn := fun _ => fun
  | [d] => { results := [.lit (.bool true)], args := [d] }
  | _ => none }
def tapeNobodyRow : OpenClaim := { program := "ytfeljjbelnlojaa", sum := "beba1667d45e115d76feef3dc3d107168a1532f87c7331f4345e78e817f6271e", func := "sporran/sporranlaw15.TapeNobody", spec := "tapeNobody", apart := false }
def TapeNobodySaid : Prop := tapeNobodyRow.holds Try.pinned (OpenSpec.ofChange tapeNobodySpec)

/-- ITS FALSE NEIGHBOUR: 'it returns false'. Refute it at one input. -/
def tapeNobodyWrong : ChangeSpec := { name := "tapeNobody", fn := fun _ => fun
  | [d] => { results := [.lit (.bool false)], args := [d] }
  | _ => none }
def TapeNobodyWrongFalsely : Prop := tapeNobodyRow.holds Try.pinned (OpenSpec.ofChange tapeNobodyWrong)

/-- 'sporranlaw15.TapeLives': WHATEVER THE INPUT: true; the input reads as it did. -/
def tapeLivesSpec : ChangeSpec := { name := "tapeLives", fn := fun _ => fun
  | [d1, d2, d3, d4] => { results := [.lit (.bool true)], args := [d1, d2, d3, d4] }
  | _ => none }
def tapeLivesRow : OpenClaim := { program := "ytfeljjbelnlojaa", sum := "beba1667d45e115d76feef3dc3d107168a1532f87c7331f4345e78e817f6271e", func := "sporran/sporranlaw15.TapeLives", spec := "tapeLives", apart := false }
def TapeLivesSaid : Prop := tapeLivesRow.holds Try.pinned (OpenSpec.ofChange tapeLivesSpec)

/-- ITS FALSE NEIGHBOUR: 'it returns false'. Refute it at one input. -/
def tapeLivesWrong : ChangeSpec := { name := "tapeLives", fn := fun _ => fun
  | [d1, d2, d3, d4] => { results := [.lit (.bool false)], args := [d1, d2, d3, d4] }
  | _ => none }
def TapeLivesWrongFalsely : Prop := tapeLivesRow.holds Try.pinned (OpenSpec.ofChange tapeLivesWrong)

/- THE SECOND FORM. 'bulk': how many values and letters a reading holds, each counted each time it is reached (what is shared counts as often as it is met; a slice's spare places count too). A statement '..UptoSaid' is the law's where the arguments, and the package variables that the reading takes, are together of bulk at most 1048576: NARROWER than '..Said'. Prove '..Said' where nothing that the law and all that it calls make is longer than what came in: it says more and counts as full. Else prove '..UptoSaid'. A law counts once. -/
mutual
def uptoBulk {H : Type} : DataW H → Nat
  | .lit (.string bytes) => bytes.length + 1
  | .lit _ => 1
  | .nil => 1
  | .ptr d => uptoBulk d + 1
  | .slice elems spare => uptoBulkAll elems + uptoBulkAll spare + 1
  | .agg parts => uptoBulkAll parts + 1
  | .iface _ d => uptoBulk d + 1
  | .map entries => uptoBulkEntries entries + 1
  | .held _ => 1
def uptoBulkAll {H : Type} : List (DataW H) → Nat
  | [] => 0
  | d :: r => uptoBulk d + uptoBulkAll r
def uptoBulkEntries {H : Type} : List (Lit × DataW H) → Nat
  | [] => 0
  | x :: r => uptoBulkEntry x + uptoBulkEntries r
def uptoBulkEntry {H : Type} : Lit × DataW H → Nat
  | (.string bytes, d) => bytes.length + uptoBulk d + 1
  | (_, d) => uptoBulk d + 1
 end
def uptoSmall : (H : Type) → List (DataW H) → Bool := fun _ ds => decide (uptoBulkAll ds ≤ 1048576)
def OpenSpec.upto (s : _root_.Go.ChangeSpec) : _root_.Go.OpenSpec := { _root_.Go.OpenSpec.ofChange s with cond := some uptoSmall }

/-- 'sporranlaw15.TapeFull', WHERE WHAT IT READS IS OF BULK AT MOST 1048576: true; the input reads as it did. -/
def tapeFullUptoRow : OpenClaim := { program := "ytfeljjbelnlojaa", sum := "beba1667d45e115d76feef3dc3d107168a1532f87c7331f4345e78e817f6271e", func := "sporran/sporranlaw15.TapeFull", spec := "tapeFull", apart := false, narrowed := true }
def TapeFullUptoSaid : Prop := tapeFullUptoRow.holds Try.pinned (OpenSpec.upto tapeFullSpec)

/-- 'sporranlaw15.TapeStays', WHERE WHAT IT READS IS OF BULK AT MOST 1048576: true; the input reads as it did. -/
def tapeStaysUptoRow : OpenClaim := { program := "ytfeljjbelnlojaa", sum := "beba1667d45e115d76feef3dc3d107168a1532f87c7331f4345e78e817f6271e", func := "sporran/sporranlaw15.TapeStays", spec := "tapeStays", apart := false, narrowed := true }
def TapeStaysUptoSaid : Prop := tapeStaysUptoRow.holds Try.pinned (OpenSpec.upto tapeStaysSpec)

/-- 'sporranlaw15.TapeFuse', WHERE WHAT IT READS IS OF BULK AT MOST 1048576: true; the input reads as it did. -/
def tapeFuseUptoRow : OpenClaim := { program := "ytfeljjbelnlojaa", sum := "beba1667d45e115d76feef3dc3d107168a1532f87c7331f4345e78e817f6271e", func := "sporran/sporranlaw15.TapeFuse", spec := "tapeFuse", apart := false, narrowed := true }
def TapeFuseUptoSaid : Prop := tapeFuseUptoRow.holds Try.pinned (OpenSpec.upto tapeFuseSpec)

/-- 'sporranlaw15.TapeNobody', WHERE WHAT IT READS IS OF BULK AT MOST 1048576: true; the input reads as it did. -/
def tapeNobodyUptoRow : OpenClaim := { program := "ytfeljjbelnlojaa", sum := "beba1667d45e115d76feef3dc3d107168a1532f87c7331f4345e78e817f6271e", func := "sporran/sporranlaw15.TapeNobody", spec := "tapeNobody", apart := false, narrowed := true }
def TapeNobodyUptoSaid : Prop := tapeNobodyUptoRow.holds Try.pinned (OpenSpec.upto tapeNobodySpec)

/-- 'sporranlaw15.TapeLives', WHERE WHAT IT READS IS OF BULK AT MOST 1048576: true; the input reads as it did. -/
def tapeLivesUptoRow : OpenClaim := { program := "ytfeljjbelnlojaa", sum := "beba1667d45e115d76feef3dc3d107168a1532f87c7331f4345e78e817f6271e", func := "sporran/sporranlaw15.TapeLives", spec := "tapeLives", apart := false, narrowed := true }
def TapeLivesUptoSaid : Prop := tapeLivesUptoRow.holds Try.pinned (OpenSpec.upto tapeLivesSpec)

end Rows
end Go.Proofs.Ytfeljjbelnlojaa
