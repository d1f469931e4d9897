/-
  No cell of these rows narrows 'for every input' (looked for: loops, veiled, ifaces, maps, wideKeys, modest, calm, conditions, laid).
  DERIVED. THE GIVEN ROWS OF THIS SEAT. 7 by the template 'for every input the law returns true; each argument reads behind the call as it read before'; 0 by the template 'total and deterministic' (their statements: YtacgcaebolmpfaaTotals.lean).
  GIVEN WITH THE SEED: the statements are not yours to turn. If you find one false, say at which input.
  Laid BY PROGRAM, IN A SANDBOX (cutbox-rows.mjs): the forced cells as the released guide's own fill.sh prints them over the translation ee116eafad0e2c32… (all of the seat's roots in one cut). By AI agents, Wed Nov 11 2026. No macro, syntax, notation, axiom, sorry.
-/
import Derived.Test.YtacgcaebolmpfaaChecked
import GoSem.Claim
import GoSem.ClaimJoined
import GoSem.ClaimMapViews
import Derived.JoinedTies
import Derived.KernelRfl
namespace Go.Proofs.Ytacgcaebolmpfaa
/- THE CELL 'sum', in the pinned program and in every row, IS THE sha256 OF THE DUMP (.gsa) THAT YtacgcaebolmpfaaProg.lean LOADS. Nothing in Lean hashes anything: it is a label: what it is worth is what the hold of that sum in a sandbox is worth. -/
noncomputable def Try.pinned : Pinned := { name := "ytacgcaebolmpfaa", sum := "ee116eafad0e2c320e0dbfbb5bc072081f47c3c2e94bf3a15af7dd427d986fc2", checked := Try.checked }
namespace Rows
def none {H : Type} : Left H := { results := [], args := [] }

/-- 'sporranlaw04.TargetBack': WHATEVER THE INPUT: true; the input reads as it did. -/
def targetBackSpec : ChangeSpec := { name := "targetBack", fn := fun _ => fun
  | [d] => { results := [.lit (.bool true)], args := [d] }
  | _ => none }
def targetBackRow : OpenClaim := { program := "ytacgcaebolmpfaa", sum := "ee116eafad0e2c320e0dbfbb5bc072081f47c3c2e94bf3a15af7dd427d986fc2", func := "sporran/sporranlaw04.TargetBack", spec := "targetBack", apart := false }
def TargetBackSaid : Prop := targetBackRow.holds Try.pinned (OpenSpec.ofChange targetBackSpec)

/-- ITS FALSE NEIGHBOUR: 'it returns false'. Refute it at one input. -/
def targetBackWrong : ChangeSpec := { name := "targetBack", fn := fun _ => fun
  | [d] => { results := [.lit (.bool false)], args := [d] }
  | _ => none }
def TargetBackWrongFalsely : Prop := targetBackRow.holds Try.pinned (OpenSpec.ofChange targetBackWrong)

/-- 'sporranlaw04.TargetCuts': WHATEVER THE INPUT: true; the input reads as it did. -/
def targetCutsSpec : ChangeSpec := { name := "targetCuts", fn := fun _ => fun
  | [d] => { results := [.lit (.bool true)], args := [d] }
  | _ => none }
def targetCutsRow : OpenClaim := { program := "ytacgcaebolmpfaa", sum := "ee116eafad0e2c320e0dbfbb5bc072081f47c3c2e94bf3a15af7dd427d986fc2", func := "sporran/sporranlaw04.TargetCuts", spec := "targetCuts", apart := false }
def TargetCutsSaid : Prop := targetCutsRow.holds Try.pinned (OpenSpec.ofChange targetCutsSpec)

/-- ITS FALSE NEIGHBOUR: 'it returns false'. Refute it at one input. -/
def targetCutsWrong : ChangeSpec := { name := "targetCuts", fn := fun _ => fun
  | [d] => { results := [.lit (.bool false)], args := [d] }
  | _ => none }
def TargetCutsWrongFalsely : Prop := targetCutsRow.holds Try.pinned (OpenSpec.ofChange targetCutsWrong)

/-- 'sporranlaw04.TargetMeets': WHATEVER THE INPUT: true; the input reads as it did. -/
def targetMeetsSpec : ChangeSpec := { name := "targetMeets", fn := fun _ => fun
  | [d1, d2] => { results := [.lit (.bool true)], args := [d1, d2] }
  | _ => none }
def targetMeetsRow : OpenClaim := { program := "ytacgcaebolmpfaa", sum := "ee116eafad0e2c320e0dbfbb5bc072081f47c3c2e94bf3a15af7dd427d986fc2", func := "sporran/sporranlaw04.TargetMeets", spec := "targetMeets", apart := false }
def TargetMeetsSaid : Prop := targetMeetsRow.holds Try.pinned (OpenSpec.ofChange targetMeetsSpec)

/-- ITS FALSE NEIGHBOUR: 'it returns false'. Refute it at one input. -/
def targetMeetsWrong : ChangeSpec := { name := "targetMeets", fn := fun _ => fun
  | [d1, d2] => { results := [.lit (.bool false)], args := [d1, d2] }
  | _ => none }
def TargetMeetsWrongFalsely : Prop := targetMeetsRow.holds Try.pinned (OpenSpec.ofChange targetMeetsWrong)

/-- 'sporranlaw04.TargetWorks': WHATEVER THE INPUT: true; the input reads as it did. -/
def targetWorksSpec : ChangeSpec := { name := "targetWorks", fn := fun _ => fun
  | [d1, d2] => { results := [.lit (.bool true)], args := [d1, d2] }
  | _ => none }
def targetWorksRow : OpenClaim := { program := "ytacgcaebolmpfaa", sum := "ee116eafad0e2c320e0dbfbb5bc072081f47c3c2e94bf3a15af7dd427d986fc2", func := "sporran/sporranlaw04.TargetWorks", spec := "targetWorks", inPlace := ["math/bits.Add64", "math/bits.Sub64"], apart := false }
def TargetWorksSaid : Prop := targetWorksRow.holds Try.pinned (OpenSpec.ofChange targetWorksSpec)

/-- ITS FALSE NEIGHBOUR: 'it returns false'. Refute it at one input. -/
def targetWorksWrong : ChangeSpec := { name := "targetWorks", fn := fun _ => fun
  | [d1, d2] => { results := [.lit (.bool false)], args := [d1, d2] }
  | _ => none }
def TargetWorksWrongFalsely : Prop := targetWorksRow.holds Try.pinned (OpenSpec.ofChange targetWorksWrong)

/-- 'sporranlaw04.TargetTells': WHATEVER THE INPUT: true; the input reads as it did. -/
def targetTellsSpec : ChangeSpec := { name := "targetTells", fn := fun _ => fun
  | [d1, d2] => { results := [.lit (.bool true)], args := [d1, d2] }
  | _ => none }
def targetTellsRow : OpenClaim := { program := "ytacgcaebolmpfaa", sum := "ee116eafad0e2c320e0dbfbb5bc072081f47c3c2e94bf3a15af7dd427d986fc2", func := "sporran/sporranlaw04.TargetTells", spec := "targetTells", inPlace := ["math/bits.Add64", "math/bits.Sub64"], apart := false }
def TargetTellsSaid : Prop := targetTellsRow.holds Try.pinned (OpenSpec.ofChange targetTellsSpec)

/-- ITS FALSE NEIGHBOUR: 'it returns false'. Refute it at one input. -/
def targetTellsWrong : ChangeSpec := { name := "targetTells", fn := fun _ => fun
  | [d1, d2] => { results := [.lit (.bool false)], args := [d1, d2] }
  | _ => none }
def TargetTellsWrongFalsely : Prop := targetTellsRow.holds Try.pinned (OpenSpec.ofChange targetTellsWrong)

/-- 'sporranlaw04.TargetNext': WHATEVER THE INPUT: true; the input reads as it did. -/
def targetNextSpec : ChangeSpec := { name := "targetNext", fn := fun _ => fun
  | [d1, d2, d3, d4] => { results := [.lit (.bool true)], args := [d1, d2, d3, d4] }
  | _ => none }
def targetNextRow : OpenClaim := { program := "ytacgcaebolmpfaa", sum := "ee116eafad0e2c320e0dbfbb5bc072081f47c3c2e94bf3a15af7dd427d986fc2", func := "sporran/sporranlaw04.TargetNext", spec := "targetNext", inPlace := ["math/bits.Add64", "math/bits.Sub64"], apart := false }
def TargetNextSaid : Prop := targetNextRow.holds Try.pinned (OpenSpec.ofChange targetNextSpec)

/-- ITS FALSE NEIGHBOUR: 'it returns false'. Refute it at one input. -/
def targetNextWrong : ChangeSpec := { name := "targetNext", fn := fun _ => fun
  | [d1, d2, d3, d4] => { results := [.lit (.bool false)], args := [d1, d2, d3, d4] }
  | _ => none }
def TargetNextWrongFalsely : Prop := targetNextRow.holds Try.pinned (OpenSpec.ofChange targetNextWrong)

/-- 'sporranlaw04.TargetBounds': WHATEVER THE INPUT: true; the input reads as it did. -/
def targetBoundsSpec : ChangeSpec := { name := "targetBounds", fn := fun _ => fun
  | [d1, d2, d3, d4] => { results := [.lit (.bool true)], args := [d1, d2, d3, d4] }
  | _ => none }
def targetBoundsRow : OpenClaim := { program := "ytacgcaebolmpfaa", sum := "ee116eafad0e2c320e0dbfbb5bc072081f47c3c2e94bf3a15af7dd427d986fc2", func := "sporran/sporranlaw04.TargetBounds", spec := "targetBounds", inPlace := ["math/bits.Add64", "math/bits.Sub64"], apart := false }
def TargetBoundsSaid : Prop := targetBoundsRow.holds Try.pinned (OpenSpec.ofChange targetBoundsSpec)

/-- ITS FALSE NEIGHBOUR: 'it returns false'. Refute it at one input. -/
def targetBoundsWrong : ChangeSpec := { name := "targetBounds", fn := fun _ => fun
  | [d1, d2, d3, d4] => { results := [.lit (.bool false)], args := [d1, d2, d3, d4] }
  | _ => none }
def TargetBoundsWrongFalsely : Prop := targetBoundsRow.holds Try.pinned (OpenSpec.ofChange targetBoundsWrong)

/- THE SECOND FORM. 'bulk': how many values and letters a reading holds, each counted each time it is reached (what is shared counts as often as it is met; a slice's spare places count too). A statement '..UptoSaid' is the law's where the arguments, and the package variables that the reading takes, are together of bulk at most 1048576: NARROWER than '..Said'. Prove '..Said' where nothing that the law and all that it calls make is longer than what came in: it says more and counts as full. Else prove '..UptoSaid'. A law counts once. -/
mutual
def uptoBulk {H : Type} : DataW H → Nat
  | .lit (.string bytes) => bytes.length + 1
  | .lit _ => 1
  | .nil => 1
  | .ptr d => uptoBulk d + 1
  | .slice elems spare => uptoBulkAll elems + uptoBulkAll spare + 1
  | .agg parts => uptoBulkAll parts + 1
  | .iface _ d => uptoBulk d + 1
  | .map entries => uptoBulkEntries entries + 1
  | .held _ => 1
def uptoBulkAll {H : Type} : List (DataW H) → Nat
  | [] => 0
  | d :: r => uptoBulk d + uptoBulkAll r
def uptoBulkEntries {H : Type} : List (Lit × DataW H) → Nat
  | [] => 0
  | x :: r => uptoBulkEntry x + uptoBulkEntries r
def uptoBulkEntry {H : Type} : Lit × DataW H → Nat
  | (.string bytes, d) => bytes.length + uptoBulk d + 1
  | (_, d) => uptoBulk d + 1
 end
def uptoSmall : (H : Type) → List (DataW H) → Bool := fun _ ds => decide (uptoBulkAll ds ≤ 1048576)
def OpenSpec.upto (s : _root_.Go.ChangeSpec) : _root_.Go.OpenSpec := { _root_.Go.OpenSpec.ofChange s with cond := some uptoSmall }

/-- 'sporranlaw04.TargetBack', WHERE WHAT IT READS IS OF BULK AT MOST 1048576: true; the input reads as it did. -/
def targetBackUptoRow : OpenClaim := { program := "ytacgcaebolmpfaa", sum := "ee116eafad0e2c320e0dbfbb5bc072081f47c3c2e94bf3a15af7dd427d986fc2", func := "sporran/sporranlaw04.TargetBack", spec := "targetBack", apart := false, narrowed := true }
def TargetBackUptoSaid : Prop := targetBackUptoRow.holds Try.pinned (OpenSpec.upto targetBackSpec)

/-- 'sporranlaw04.TargetCuts', WHERE WHAT IT READS IS OF BULK AT MOST 1048576: true; the input reads as it did. -/
def targetCutsUptoRow : OpenClaim := { program := "ytacgcaebolmpfaa", sum := "ee116eafad0e2c320e0dbfbb5bc072081f47c3c2e94bf3a15af7dd427d986fc2", func := "sporran/sporranlaw04.TargetCuts", spec := "targetCuts", apart := false, narrowed := true }
def TargetCutsUptoSaid : Prop := targetCutsUptoRow.holds Try.pinned (OpenSpec.upto targetCutsSpec)

/-- 'sporranlaw04.TargetMeets', WHERE WHAT IT READS IS OF BULK AT MOST 1048576: true; the input reads as it did. -/
def targetMeetsUptoRow : OpenClaim := { program := "ytacgcaebolmpfaa", sum := "ee116eafad0e2c320e0dbfbb5bc072081f47c3c2e94bf3a15af7dd427d986fc2", func := "sporran/sporranlaw04.TargetMeets", spec := "targetMeets", apart := false, narrowed := true }
def TargetMeetsUptoSaid : Prop := targetMeetsUptoRow.holds Try.pinned (OpenSpec.upto targetMeetsSpec)

/-- 'sporranlaw04.TargetWorks', WHERE WHAT IT READS IS OF BULK AT MOST 1048576: true; the input reads as it did. -/
def targetWorksUptoRow : OpenClaim := { program := "ytacgcaebolmpfaa", sum := "ee116eafad0e2c320e0dbfbb5bc072081f47c3c2e94bf3a15af7dd427d986fc2", func := "sporran/sporranlaw04.TargetWorks", spec := "targetWorks", inPlace := ["math/bits.Add64", "math/bits.Sub64"], apart := false, narrowed := true }
def TargetWorksUptoSaid : Prop := targetWorksUptoRow.holds Try.pinned (OpenSpec.upto targetWorksSpec)

/-- 'sporranlaw04.TargetTells', WHERE WHAT IT READS IS OF BULK AT MOST 1048576: true; the input reads as it did. -/
def targetTellsUptoRow : OpenClaim := { program := "ytacgcaebolmpfaa", sum := "ee116eafad0e2c320e0dbfbb5bc072081f47c3c2e94bf3a15af7dd427d986fc2", func := "sporran/sporranlaw04.TargetTells", spec := "targetTells", inPlace := ["math/bits.Add64", "math/bits.Sub64"], apart := false, narrowed := true }
def TargetTellsUptoSaid : Prop := targetTellsUptoRow.holds Try.pinned (OpenSpec.upto targetTellsSpec)

/-- 'sporranlaw04.TargetNext', WHERE WHAT IT READS IS OF BULK AT MOST 1048576: true; the input reads as it did. -/
def targetNextUptoRow : OpenClaim := { program := "ytacgcaebolmpfaa", sum := "ee116eafad0e2c320e0dbfbb5bc072081f47c3c2e94bf3a15af7dd427d986fc2", func := "sporran/sporranlaw04.TargetNext", spec := "targetNext", inPlace := ["math/bits.Add64", "math/bits.Sub64"], apart := false, narrowed := true }
def TargetNextUptoSaid : Prop := targetNextUptoRow.holds Try.pinned (OpenSpec.upto targetNextSpec)

/-- 'sporranlaw04.TargetBounds', WHERE WHAT IT READS IS OF BULK AT MOST 1048576: true; the input reads as it did. -/
def targetBoundsUptoRow : OpenClaim := { program := "ytacgcaebolmpfaa", sum := "ee116eafad0e2c320e0dbfbb5bc072081f47c3c2e94bf3a15af7dd427d986fc2", func := "sporran/sporranlaw04.TargetBounds", spec := "targetBounds", inPlace := ["math/bits.Add64", "math/bits.Sub64"], apart := false, narrowed := true }
def TargetBoundsUptoSaid : Prop := targetBoundsUptoRow.holds Try.pinned (OpenSpec.upto targetBoundsSpec)

end Rows
end Go.Proofs.Ytacgcaebolmpfaa
