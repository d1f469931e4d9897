/- Opening arguments of bounded bulk: a block, bytes, slices of bytes. -/
import Derived.Test.YtppcccocnmhbgaaBlk
namespace Go.Proofs.Ytppcccocnmhbgaa
open Go Go.ChangeShapes Go.WideShapes Go.ChangeAt Go.RowKit
set_option linter.unusedVariables false
set_option maxRecDepth 100000

theorem upto_part {H : Type} {l : List (DataW H)} (hk : Rows.uptoSmall H l = true) {d : DataW H} (hd : d ∈ l) : Rows.uptoBulk d ≤ 1048576 := by
  have h : Rows.uptoBulkAll l ≤ 1048576 := of_decide_eq_true hk
  exact Nat.le_trans (bulk_part hd) h
section
variable {H : Type} {enc : TypeId × Value → H} {w : World} {b0 : Nat} {r : Reach} {v : Value} {d : DataW H} {p : List MemPlace}
theorem open_blkU (hv : Value.okWide Try.prog w r b0 41 v) (h : DataW.Trod enc Try.prog w 0 (fun _ => true) true 41 v d p) (hb : Rows.uptoBulk d ≤ 1048576) : ∃ B, v = .agg (blkCs B).toArray ∧ BlkOk 1048576 w B := by
  obtain ⟨cs, rfl, _⟩ := okWide_struct Try.underlying41 hv
  obtain ⟨fuel, hf⟩ := h
  have hok := ok_of_trod (M := 1048576) (f := 9) (by kernel_rfl) hf hb
  obtain ⟨B, e, hB⟩ := ok_blk (f := 0) (Nat.le_refl _) hok
  have e' : cs.toList = blkCs B := e
  exact ⟨B, by rw [← e'], hB⟩
theorem open_rowU (hv : Value.okWide Try.prog w r b0 26 v) (h : DataW.Trod enc Try.prog w 0 (fun _ => true) true 26 v d p) (hb : Rows.uptoBulk d ≤ 1048576) : ∃ x : RwD, v = .slice x.a x.z.length x.c ∧ RwOk 1048576 w x := by
  obtain ⟨a0, len, cap, rfl⟩ := okWide_slice Try.underlying26 hv
  obtain ⟨fuel, hf⟩ := h
  have hok := ok_of_trod (M := 1048576) (f := 2) (by kernel_rfl) hf hb
  obtain ⟨x, e, hx⟩ := Ok.row (f := 0) (Nat.le_refl _) hok
  have e' : [Value.slice a0 len cap] = [x.cell] := e
  exact ⟨x, by injection e', hx⟩
theorem open_browsU (hv : Value.okWide Try.prog w r b0 24 v) (h : DataW.Trod enc Try.prog w 0 (fun _ => true) true 24 v d p) (hb : Rows.uptoBulk d ≤ 1048576) : ∃ s : SlD RwD, v = .slice s.a s.n s.c ∧ SlOk 1048576 1 (fun r : RwD => [r.cell]) (RwOk 1048576) w s := by
  obtain ⟨a0, len, cap, rfl⟩ := okWide_slice Try.underlying24 hv
  obtain ⟨fuel, hf⟩ := h
  have hok := ok_of_trod (M := 1048576) (f := 3) (by kernel_rfl) hf hb
  obtain ⟨x, e, hx⟩ := ok_wit (f := 0) (Nat.le_refl _) hok
  have e' : [Value.slice a0 len cap] = [x.cell] := e
  exact ⟨x, by injection e', hx⟩
end
/-- such slices, told as rows -/
theorem SlOk.rows {w : World} {M : Nat} {s : SlD RwD} (h : SlOk M 1 (fun r : RwD => [r.cell]) (RwOk M) w s) : RowsIn w s.a s.n (fun i => (s.x i).a) (fun i => (s.x i).c) (fun i => (s.x i).z) := fun i hi => by
  obtain ⟨b, o, h1, h2, h3, h4⟩ := h.2.2.2 i hi
  refine ⟨b, o, h1, ?_, h4.1⟩
  have := h3 0 (by simp)
  rw [Nat.mul_one, Nat.add_zero] at this
  exact this
end Go.Proofs.Ytppcccocnmhbgaa
