/- '==' on points and headers. -/
import Derived.Test.YtppcccocnmhbgaaBlk
import Derived.Test.YtppcccocnmhbgaaTwo
import Derived.Test.YtppcccocnmhbgaaHashE
import Derived.Test.YtppcccocnmhbgaaEq
namespace Go.Proofs.Ytppcccocnmhbgaa
open Go Go.RowKit
set_option linter.unusedSimpArgs false
set_option linter.unusedVariables false
set_option maxRecDepth 100000

theorem heqIn (d : Nat) (a b : Nat) (ha : a < W256) (hb : b < W256) (w : World) : (Op.equalIn (d + 2) 23 (.agg (hcs a)) (.agg (hcs b))).run Try.prog w = .ok (a == b) w := by
  rw [← byt_all a b ha hb]
  exact run_equalIn_ints d 23 5 32 .u8 .u8 (hcs a) (hcs b) (byt a) (byt b) w Try.underlying23 Try.underlying5 isAgg_u8 sizeOf_u8 (fun i hi => hcs_get a i hi) (fun i hi => hcs_get b i hi)
theorem isAgg_hash (w : World) : (isAgg 23).run Try.prog w = .ok true w := by kernel_rfl
theorem sizeOf_hash (w : World) : (Go.sizeOf 23).run Try.prog w = .ok 32 w := by kernel_rfl
theorem isAgg_u32 (w : World) : (isAgg 36).run Try.prog w = .ok false w := by kernel_rfl
theorem part_hash {cs pre post : List Value} {n : Nat} (h : cs = pre ++ (hls n ++ post)) (w : World) : (Go.part 23 cs.toArray pre.length).run Try.prog w = .ok (.agg (hcs n)) w := by
  have e : cs.toArray.extract pre.length (pre.length + 32) = hcs n := by
    rw [h, List.extract_toArray, List.extract_eq_take_drop, Nat.add_sub_cancel_left, List.drop_left, List.take_left' (hls_length n)]; rfl
  unfold Go.part
  simp only [Sem.run_bind, isAgg_hash, sizeOf_hash, Result.andThen_ok, if_true, Sem.run_pure, e]
theorem part_u32 {cs : List Value} {i : Nat} {v : Value} (h : cs[i]? = some v) (w : World) : (Go.part 36 cs.toArray i).run Try.prog w = .ok v w := by
  simp [Go.part, Sem.run_bind, isAgg_u32, h]
/-- the cells of a point -/
def ptCs (id : Nat) (ix : Int) : List Value := hls id ++ [.int .u32 ix]
theorem ptCs_len (id : Nat) (ix : Int) : (ptCs id ix).length = 33 := by simp [ptCs, hls_length]
/-- fields by type and place alone -/
def eqF (d : Nat) (xs ys : Array Value) : List (TypeId × Nat) → Sem Bool
  | [] => pure true
  | f :: fs => do
    let a ← Go.part f.1 xs f.2
    let b ← Go.part f.1 ys f.2
    let r ← Op.equalIn d f.1 a b
    if (!r) = true then pure false else eqF d xs ys fs
theorem eqF_of (d : Nat) (xs ys : Array Value) : ∀ (fs : List Field) (l : List (TypeId × Nat)), fs.map (fun f => (f.name != "_", f.type, f.offset)) = l.map (fun p => (true, p.1, p.2)) → Op.eqFields d xs ys fs = eqF d xs ys l
  | [], [], _ => rfl
  | [], _ :: _, h => by cases h
  | _ :: _, [], h => by cases h
  | f :: fs, p :: l, h => by
    simp only [List.map_cons, List.cons.injEq, Prod.mk.injEq] at h
    obtain ⟨⟨h1, h2, h3⟩, h4⟩ := h
    have ih := eqF_of d xs ys fs l h4
    have hn : f.name ≠ "_" := by simpa using h1
    unfold Op.eqFields eqF
    rw [if_pos hn, h2, h3, ih]
theorem fieldsPt : (Try.prog.fieldsOf 111).toList.map (fun f => (f.name != "_", f.type, f.offset)) = [(23, 0), (36, 32)].map (fun p => (true, p.1, p.2)) := by kernel_rfl
theorem undPt : Try.prog.underlying 111 = some (.struct (Try.prog.fieldsOf 111)) := by kernel_rfl
theorem heldPt : Try.prog.stoodInHeld 111 = false := by kernel_rfl
theorem eqPt (a b : Nat) (i j : Int) (ha : a < W256) (hb : b < W256) (w : World) : (binOp .eql 111 (.agg (ptCs a i).toArray) (.agg (ptCs b j).toArray)).run Try.prog w = .ok (.bool (a == b && i == j)) w := by
  have p1 := fun w => part_hash (cs := ptCs a i) (pre := []) (post := [.int .u32 i]) (n := a) rfl w
  have p2 := fun w => part_hash (cs := ptCs b j) (pre := []) (post := [.int .u32 j]) (n := b) rfl w
  have q1 := fun w => part_u32 (cs := ptCs a i) (i := 32) (v := .int .u32 i) (by unfold ptCs; rw [List.getElem?_append_right (by rw [hls_length]; exact Nat.le_refl _), hls_length]; rfl) w
  have q2 := fun w => part_u32 (cs := ptCs b j) (i := 32) (v := .int .u32 j) (by unfold ptCs; rw [List.getElem?_append_right (by rw [hls_length]; exact Nat.le_refl _), hls_length]; rfl) w
  have h1 := fun w => heqIn 9997 a b ha hb w
  have h2 := fun w => run_equalIn_int (P := Try.prog) w 9998 36 .u32 .u32 i j Try.underlying36
  simp only [List.length_nil] at p1 p2
  rw [run_eql_struct, run_equalIn_struct w 9999 111 _ _ undPt heldPt, eqF_of _ _ _ _ _ fieldsPt]
  simp only [eqF, Sem.run_bind, p1, p2, q1, q2, h1, h2, Result.andThen_ok, Sem.run_pure, if_true, ne_eq, String.reduceEq, not_false_eq_true, Sem.run_ite]
  cases a == b <;> cases i == j <;> rfl
theorem eqGuardPt (x y : Operand) (a b : Array Value) (w : World) : (eqGuard .eql 111 x y (.agg a) (.agg b)).run Try.prog w = .ok () w := run_eqGuard_agg _ _ _ _ _ _ _ (by kernel_rfl)
/-- two headers, compared field by field -/
def hdrB (a b : HdrD) : Bool := a.ver == b.ver && (a.prev == b.prev && (a.merkle == b.merkle && (a.time == b.time && (a.bits == b.bits && a.nonce == b.nonce))))
theorem hdrB_iff (a b : HdrD) : hdrB a b = true ↔ a = b := by
  obtain ⟨a1, a2, a3, a4, a5, a6⟩ := a
  obtain ⟨b1, b2, b3, b4, b5, b6⟩ := b
  simp [hdrB]
theorem hdrB_self (a : HdrD) : hdrB a a = true := (hdrB_iff a a).2 rfl
theorem fieldsHdr : (Try.prog.fieldsOf 38).toList.map (fun f => (f.name != "_", f.type, f.offset)) = [(36, 0), (23, 1), (23, 33), (36, 65), (36, 66), (36, 67)].map (fun p => (true, p.1, p.2)) := by kernel_rfl
theorem undHdr : Try.prog.underlying 38 = some (.struct (Try.prog.fieldsOf 38)) := by kernel_rfl
theorem heldHdr : Try.prog.stoodInHeld 38 = false := by kernel_rfl
theorem hdrCs_len (x : HdrD) : (hdrCs x).length = 68 := by simp [hdrCs, hls_length]
theorem hdr_0 (x : HdrD) : (hdrCs x)[0]? = some (.int .u32 x.ver) := rfl
theorem hdr_tail (x : HdrD) (j : Nat) : (hdrCs x)[65 + j]? = ([.int .u32 x.time, .int .u32 x.bits, .int .u32 x.nonce] : List Value)[j]? := by
  unfold hdrCs
  rw [List.getElem?_append_right (by simp [hls_length])]
  congr 1; simp [hls_length]
theorem eqHdr (a b : HdrD) (ha : HdrOk a) (hb : HdrOk b) (w : World) : (binOp .eql 38 (.agg (hdrCs a).toArray) (.agg (hdrCs b).toArray)).run Try.prog w = .ok (.bool (hdrB a b)) w := by
  have z := fun (x : HdrD) => fun w => part_u32 (cs := hdrCs x) (i := 0) (hdr_0 x) w
  have p := fun (x : HdrD) => fun w => part_hash (cs := hdrCs x) (pre := [.int .u32 x.ver]) (post := hls x.merkle ++ [.int .u32 x.time, .int .u32 x.bits, .int .u32 x.nonce]) (n := x.prev) (by simp [hdrCs]) w
  have m := fun (x : HdrD) => fun w => part_hash (cs := hdrCs x) (pre := [.int .u32 x.ver] ++ hls x.prev) (post := [.int .u32 x.time, .int .u32 x.bits, .int .u32 x.nonce]) (n := x.merkle) (by simp [hdrCs]) w
  have t := fun (x : HdrD) => fun w => part_u32 (cs := hdrCs x) (i := 65) (hdr_tail x 0) w
  have b' := fun (x : HdrD) => fun w => part_u32 (cs := hdrCs x) (i := 66) (hdr_tail x 1) w
  have n := fun (x : HdrD) => fun w => part_u32 (cs := hdrCs x) (i := 67) (hdr_tail x 2) w
  simp only [List.length_append, List.length_cons, List.length_nil, hls_length, Nat.reduceAdd] at p m
  have h1 := fun w => heqIn 9997 a.prev b.prev ha.2.1 hb.2.1 w
  have h2 := fun w => heqIn 9997 a.merkle b.merkle ha.2.2.1 hb.2.2.1 w
  have h3 := fun (i j : Int) => fun w => run_equalIn_int (P := Try.prog) w 9998 36 .u32 .u32 i j Try.underlying36
  rw [run_eql_struct, run_equalIn_struct w 9999 38 _ _ undHdr heldHdr, eqF_of _ _ _ _ _ fieldsHdr]
  simp only [eqF, Sem.run_bind, z, p, m, t, b', n, h1, h2, h3, Result.andThen_ok, Sem.run_pure, if_true, ne_eq, String.reduceEq, not_false_eq_true, Sem.run_ite]
  unfold hdrB
  cases a.ver == b.ver <;> try rfl
  cases a.prev == b.prev <;> try rfl
  cases a.merkle == b.merkle <;> try rfl
  cases a.time == b.time <;> try rfl
  cases a.bits == b.bits <;> try rfl
  cases a.nonce == b.nonce <;> rfl
theorem eqGuardHdr (x y : Operand) (a b : Array Value) (w : World) : (eqGuard .eql 38 x y (.agg a) (.agg b)).run Try.prog w = .ok () w := run_eqGuard_agg _ _ _ _ _ _ _ (by kernel_rfl)
/-- '==' at the list of a region's operations -/
theorem wpl_eql {P : Program} {w : World} {ops : Array Oper} {rest : List Oper} {o : Oper} {a : Act} {Q : Exit → Act → World → Prop} (hgd : o.guard = none) (t ty : TypeId) (x y : Operand) (ho : o.op = .binOp .eql t x y ty) {va vb : Value} {b : Bool}
    (hx : a.eval x = va) (hy : a.eval y = vb) (hg : (eqGuard .eql t x y va vb).run P w = .ok () w) (hr : (binOp .eql t va vb).run P w = .ok (.bool b) w) (h : wpList P ops Q rest (a.put o.dst (.bool b)) w) : wpList P ops Q (o :: rest) a w := by
  refine wpList_plain hgd fun K hK' => ?_
  have e : (execOp a.eval o).run P w = .ok (.value (.bool b)) w := by
    unfold execOp
    rw [ho]
    simp only [hx, hy, Sem.run_bind, hg, hr, Result.andThen_ok, Sem.run_pure]
  unfold Oper.wp
  rw [e]
  exact hK' _ _ h
end Go.Proofs.Ytppcccocnmhbgaa
