/- A hash is loaded, wherever it stands. -/
import Derived.Test.YtppcccocnmhbgaaDoorHashE
import Derived.Test.YtppcccocnmhbgaaDoorWideBase
import Derived.BigFrame
namespace Go.Proofs.YtppcccocnmhbgaaDoor
open Go Go.RowKit
set_option linter.unusedSimpArgs false
set_option linter.unusedVariables false

theorem hashInfo : (Tryd.prog.info? 24).map (·.size) = some 32 := by kernel_rfl
theorem blk_range {w : World} {g n : Nat} {t : TypeId} (h : Blk w g (hcs n) t) : w.rangeAt g 0 (hls n) := fun j v hv => by
  rw [Nat.zero_add, h.cell]; simpa [hcs] using hv
theorem wpl_loadH {ops : Array Oper} {rest : List Oper} {o : Oper} {a : Act} {w : World} {Q : Exit → Act → World → Prop} (hgd : o.guard = none) (x : Operand) (ho : o.op = .load 24 x) (b k : Nat) (hx : a.eval x = .pointer (some ⟨b, k, none⟩)) (n : Nat) (hr : w.rangeAt b k (hls n))
    (h : wpList Tryd.prog ops Q rest (a.put o.dst (hv n)) w) : wpList Tryd.prog ops Q (o :: rest) a w :=
  wpList_load_mid hgd 24 x ho b k hx (hls n) (.array 32 5) hr Tryd.underlying24 rfl hashInfo h
/-- the same, guarded -/
theorem wpl_loadHg {ops : Array Oper} {rest : List Oper} {o : Oper} {a : Act} {w : World} {Q : Exit → Act → World → Prop} (hw : Region.wanted o (yielded ops a.tmps) = true) (x : Operand) (ho : o.op = .load 24 x) (b k : Nat) (hx : a.eval x = .pointer (some ⟨b, k, none⟩)) (n : Nat) (hr : w.rangeAt b k (hls n))
    (h : wpList Tryd.prog ops Q rest (a.put o.dst (hv n)) w) : wpList Tryd.prog ops Q (o :: rest) a w :=
  BigFrame.wpList_want hw (fun K hK => wp_load_mid 24 x ho b k hx (hls n) (.array 32 5) hr Tryd.underlying24 rfl hashInfo (hK _ _ h))
/-- in a region that draws: under an S that keeps the block -/
theorem yld_hash {ops : Array Oper} {S : World → Prop} {op : Oper} {a : Act} (hw : Region.wanted op (yielded ops a.tmps) = true) (x : Operand) (ho : op.op = .load 24 x) (b k : Nat) (hx : a.eval x = .pointer (some ⟨b, k, none⟩)) (n : Nat) (hS : ∀ w, S w → w.rangeAt b k (hls n)) :
    YieldsIf Tryd.prog ops S op (hv n) a :=
  yieldsIf_load_mid hw 24 x ho b k hx (hls n) (.array 32 5) hS Tryd.underlying24 rfl hashInfo
end Go.Proofs.YtppcccocnmhbgaaDoor
