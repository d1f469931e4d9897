import Derived.Test.YtbjbjgfjaopibaaGreatDoorLv8
import Derived.Test.YtbjbjgfjaopibaaGreatDoorLv2
import Derived.Test.YtbjbjgfjaopibaaGreatDoorLv1
import Derived.Deep.MidRow
section
/- Elements and lists of them in memory of their own, of any kind. -/
namespace Go.Proofs.YtbjbjgfjaopibaaGreatDoor
open Go Go.RowKit
set_option linter.unusedSimpArgs false
set_option linter.unusedVariables false
set_option maxRecDepth 100000

/-- a kind of element: its cells, and what it is to lie in blocks of which P holds -/
structure EKind (α : Type) where
  k : Nat
  cs : α → List Value
  at' : (Nat → Prop) → World → α → Prop
  len : ∀ x, (cs x).length = k
  one : ∀ x, ∀ u ∈ cs x, u.oneCell' = true
  keep : ∀ {P X : Nat → Prop} {w w' : World} {x : α}, at' P w x → Keep X w w' → (∀ b, P b → ¬ X b) → at' P w' x
  mono : ∀ {P P' : Nat → Prop} {w : World} {x : α}, at' P w x → (∀ b, P b → P' b) → at' P' w x
section
variable {α : Type} {K : EKind α} {w w' w0 : World} {G : Nat} {v : Value} {X : List α} {e : TypeId}
/-- a list that grows by append -/
def LstAt (K : EKind α) (e : TypeId) (w : World) (G : Nat) (v : Value) (X : List α) : Prop :=
  ∃ o, RowV w e K.k v X.length (X.flatMap K.cs) o ∧ (∀ g, o = some g → G ≤ g) ∧ ∀ x ∈ X, K.at' (fun b => G ≤ b ∧ b < w.heap.size ∧ o ≠ some b) w x
theorem flat_len (K : EKind α) : ∀ X : List α, (X.flatMap K.cs).length = X.length * K.k
  | [] => by simp
  | x :: t => by rw [List.flatMap_cons, List.length_append, K.len, flat_len K t, List.length_cons, Nat.add_mul]; omega
theorem flat_one (K : EKind α) (X : List α) : ∀ u ∈ X.flatMap K.cs, u.oneCell' = true := fun u hu => by
  obtain ⟨x, _, hx⟩ := List.mem_flatMap.1 hu
  exact K.one x u hx
theorem flat_get (K : EKind α) : ∀ (X : List α) (i j : Nat) (h : i < X.length), j < K.k → (X.flatMap K.cs)[i * K.k + j]? = (K.cs X[i])[j]?
  | [], i, j, h, _ => by simp at h
  | x :: t, 0, j, _, hj => by
    rw [List.flatMap_cons, Nat.zero_mul, Nat.zero_add, List.getElem?_append_left (by rw [K.len]; exact hj)]; rfl
  | x :: t, i + 1, j, h, hj => by
    rw [List.flatMap_cons, List.getElem?_append_right (by rw [K.len, Nat.add_mul]; omega), K.len, show (i + 1) * K.k + j - K.k = i * K.k + j from by rw [Nat.add_mul]; omega, flat_get K t i j (by simpa using h) hj]
    rfl
theorem LstAt.nil (K : EKind α) (e : TypeId) (w : World) (G : Nat) : LstAt K e w G (.slice none 0 0) [] := ⟨none, RowV.nil _ _ _, fun g hg => (by cases hg), fun x hx => (by cases hx)⟩
theorem LstAt.more (h : LstAt K e w G v X) (hb : Below w.heap.size w w') : LstAt K e w' G v X := by
  obtain ⟨o, h1, h2, h3⟩ := h
  have kb := Keep.of_below (X := fun _ => False) hb
  exact ⟨o, h1.keep kb (fun _ _ h => h), h2, fun x hx => K.mono (K.keep (h3 x hx) kb (fun _ _ h => h)) (fun b hb' => ⟨hb'.1, Nat.lt_of_lt_of_le hb'.2.1 hb.size, hb'.2.2⟩)⟩
/-- an element put behind -/
theorem LstAt.add {P : Program} {i : TypeInfo} {z : Value} {by1 : Nat} (t : TypeId) (ht : P.underlying t = some (.slice e)) (hi : P.info? e = some i) (hz : i.zero = some z) (hs : i.size = K.k) (hby : i.bytes = by1) (hzs : z.cells.size = K.k) (hk : 0 < K.k)
    (h : LstAt K e w0 G v X) (hb : Below w0.heap.size w0 w) (hG : G ≤ w0.heap.size) {x : α} (hx : K.at' (fun b => w0.heap.size ≤ b ∧ b < w.heap.size) w x) (hmax : X.length + 1 ≤ maxLen) (hby2 : (X.length + 1) * by1 ≤ 140737488355328) :
    ∃ q n c w', v = .slice q X.length n ∧ (Builtin.append_ #[t, t] t #[v, .slice (some ⟨w.heap.size, 0, none⟩) 1 1]).run P (w.alloc (.cells (K.cs x).toArray e)) = .ok c w' ∧ LstAt K e w' G c (X ++ [x]) ∧ Below G w w' := by
  obtain ⟨o, h1, h2, h3⟩ := h
  obtain ⟨q, n, rfl, _⟩ := h1.form
  have kb := Keep.of_below (X := fun _ => False) hb
  have ka := (Keep.refl (fun _ => False) w).alloc (.cells (K.cs x).toArray e)
  have kab := kb.trans ka
  have rv := h1.keep kab (fun _ _ h => h)
  have hsz : (w.alloc (.cells (K.cs x).toArray e)).heap.size = w.heap.size + 1 := by simp
  have hlt : ∀ g, o = some g → g < w0.heap.size := fun g hg => h1.lt g hg
  obtain ⟨v', w', g', r1, r2, r3, r4⟩ := rowV_append (P := P) t t i z ht hi hz hs hby hzs hk rv (a := ⟨w.heap.size, 0, none⟩) (m := 1) (c := 1) (news := K.cs x) (by rw [K.len, Nat.one_mul]) (fun j u hu => by
    rw [Addr.add_lit, Nat.zero_add, (Blk.new w (K.cs x).toArray e).cell, List.getElem?_toArray]; exact hu) (K.one x) (by decide) hmax hby2
  have e5 : (X ++ [x]).length = X.length + 1 := by simp
  have hsize := r4.size
  refine ⟨q, n, v', w', rfl, r1, ⟨some g', ?_, fun g hg => ?_, fun y hy => ?_⟩, ?_⟩
  · rw [e5, List.flatMap_append, List.flatMap_singleton]; exact r2
  · cases hg
    rcases r3 with h | h
    · exact h2 _ h
    · rw [hsz] at h; have := hb.size; omega
  · rcases List.mem_append.1 hy with hy | hy
    · refine K.mono (K.keep (K.keep (h3 y hy) kab (fun _ _ h => h)) r4 (fun b hb' => hb'.2.2)) (fun b hb' => ⟨hb'.1, by have := hb'.2.1; have := hb.size; omega, fun e => ?_⟩)
      cases e
      rcases r3 with h | h
      · exact hb'.2.2 h
      · have := hb'.2.1; have := hb.size; omega
    · rw [List.mem_singleton.1 hy]
      refine K.mono (K.keep (K.keep hx ka (fun _ _ h => h)) r4 (fun b hb' e => ?_)) (fun b hb' => ⟨by have := hb'.1; omega, by have := hb'.2; omega, fun e => ?_⟩)
      · have := hlt _ e; have := hb'.1; omega
      · cases e
        rcases r3 with h | h
        · have := hlt _ h; have := hb'.1; omega
        · have := hb'.2; omega
  · have hGw : G ≤ w.heap.size := Nat.le_trans hG hb.size
    exact ((Below.refl G w).alloc hGw _).trans (r4.below (by rw [hsz]; omega) (fun g hg => h2 _ hg))
/-- a slice of such elements -/
def slAt (K : EKind α) (P : Nat → Prop) (w : World) (s : SlD α) : Prop :=
  s.n ≤ s.c ∧ (s.n ≤ 1048576 ∧ s.c ≤ 9223372036854775807) ∧ (s.a = none → s.c = 0) ∧ (∀ q, s.a = some q → P q.block) ∧ ∀ i, i < s.n → ∃ b o, s.a = some ⟨b, o, none⟩ ∧ CellsAt w b (o + i * K.k) (K.cs (s.x i)) ∧ K.at' P w (s.x i)
theorem slAt.keep {P X : Nat → Prop} {s : SlD α} (h : slAt K P w s) (hk : Keep X w w') (hn : ∀ b, P b → ¬ X b) : slAt K P w' s :=
  ⟨h.1, h.2.1, h.2.2.1, h.2.2.2.1, fun i hi => by
    obtain ⟨b, o, e1, e2, e3⟩ := h.2.2.2.2 i hi
    refine ⟨b, o, e1, fun j hj => ?_, K.keep e3 hk hn⟩
    have := e2 j hj
    rw [List.getElem?_eq_getElem hj] at this ⊢
    exact (hk.cell (cell_lt this) (hn b (h.2.2.2.1 _ e1))).trans this⟩
theorem slAt.mono {P P' : Nat → Prop} {s : SlD α} (h : slAt K P w s) (hm : ∀ b, P b → P' b) : slAt K P' w s :=
  ⟨h.1, h.2.1, h.2.2.1, fun q hq => hm _ (h.2.2.2.1 q hq), fun i hi => by
    obtain ⟨b, o, e1, e2, e3⟩ := h.2.2.2.2 i hi
    exact ⟨b, o, e1, e2, K.mono e3 hm⟩⟩
/-- what grew by append, as a slice -/
theorem LstAt.sl (x0 : α) (h : LstAt K e w G v X) (hl : X.length ≤ 1048576) : ∃ s : SlD α, v = s.cell ∧ s.n = X.length ∧ (∀ i, i < X.length → s.x i = X.getD i x0) ∧ slAt K (fun b => G ≤ b ∧ b < w.heap.size) w s := by
  obtain ⟨o, h1, h2, h3⟩ := h
  obtain ⟨q, c, rfl, hle, hcm, hcase⟩ := h1.form
  refine ⟨⟨q, X.length, c, fun i => X.getD i x0⟩, rfl, rfl, fun _ _ => rfl, hle, ⟨hl, by unfold maxLen at hcm; exact hcm⟩, fun hq => ?_, fun q' hq => ?_, fun i hi => ?_⟩
  · rcases hcase with ⟨_, _, h, _⟩ | ⟨g, _, h, _⟩
    · exact h
    · have hq' : q = none := hq
      rw [h] at hq'; cases hq'
  · have hq' : q = some q' := hq
    rcases hcase with ⟨h, _⟩ | ⟨g, ho, h, hg⟩
    · rw [h] at hq'; cases hq'
    · rw [h] at hq'; cases hq'
      exact ⟨h2 _ ho, hg⟩
  · have hi' : i < X.length := hi
    obtain ⟨g, cap, ho, ev, _, _, hg, hc, _⟩ := h1.mem (by omega)
    cases ev
    have egd : X.getD i x0 = X[i] := by rw [List.getD_eq_getElem?_getD, List.getElem?_eq_getElem hi']; rfl
    refine ⟨g, 0, rfl, fun j hj => ?_, ?_⟩
    · have hj' : j < K.k := by
        have : j < (K.cs (X.getD i x0)).length := hj
        rwa [K.len] at this
      show w.cell? ⟨g, 0 + i * K.k + j, none⟩ = (K.cs (X.getD i x0))[j]?
      rw [Nat.zero_add, hc (i * K.k + j) (by
        have : (i + 1) * K.k ≤ X.length * K.k := Nat.mul_le_mul_right _ hi'
        rw [Nat.add_mul] at this; omega), flat_get K X i j hi' hj', egd]
    · show K.at' _ w (X.getD i x0)
      rw [egd]
      exact K.mono (h3 _ (List.getElem_mem hi')) (fun b hb => ⟨hb.1, hb.2.1⟩)
end
/-- rows of bytes -/
def rwK : EKind RwD where
  k := 1
  cs := fun r => [r.cell]
  at' := fun P w r => RwOk 1048576 w r ∧ ∀ q, r.a = some q → P q.block
  len := fun _ => rfl
  one := fun r u hu => by rw [List.mem_singleton.1 hu]; rfl
  keep := fun {P X w w' r} h hk hn => ⟨⟨h.1.1.keep hk (fun q hq => hn _ (h.2 q hq)), h.1.2⟩, h.2⟩
  mono := fun h hm => ⟨h.1, fun q hq => hm _ (h.2 q hq)⟩
/-- the same contents, wherever they lie -/
def slEq {α : Type} (R : α → α → Prop) (s t : SlD α) : Prop := s.n = t.n ∧ ∀ i, i < s.n → R (s.x i) (t.x i)
def rwEq (r s : RwD) : Prop := r.z = s.z
end Go.Proofs.YtbjbjgfjaopibaaGreatDoor
end

section
/- Laws at single operations of a region. No program in sight. -/
namespace Go.Proofs.YtbjbjgfjaopibaaGreatDoor
open Go Go.RowKit
set_option linter.unusedSimpArgs false
set_option linter.unusedVariables false

theorem wp_appI {P : Program} {w w' : World} {o : Oper} {a : Act} {K : Act → World → Prop} {Q : Exit → Act → World → Prop} (s x : Operand) (t : TypeId)
    (ho : o.op = .call { callee := .builtin .append, args := #[s, x], argTypes := #[t, t] }) {v1 v2 v' : Value} (hs : a.eval s = v1) (hx : a.eval x = v2)
    (hrun : (Builtin.append_ #[t, t] o.type #[v1, v2]).run P w = .ok v' w') (h : K (a.put o.dst v') w') : o.wp P a w K Q := by
  unfold Oper.wp
  simp [execOp, ho, resolve, invoke, builtin, hs, hx, hrun, Result.andThen]
  exact h
/-- '==' at the list of a region's operations -/
theorem wpl_eql {P : Program} {w : World} {ops : Array Oper} {rest : List Oper} {o : Oper} {a : Act} {Q : Exit → Act → World → Prop} (hgd : o.guard = none) (t ty : TypeId) (x y : Operand) (ho : o.op = .binOp .eql t x y ty) {va vb : Value} {b : Bool}
    (hx : a.eval x = va) (hy : a.eval y = vb) (hg : (eqGuard .eql t x y va vb).run P w = .ok () w) (hr : (binOp .eql t va vb).run P w = .ok (.bool b) w) (h : wpList P ops Q rest (a.put o.dst (.bool b)) w) : wpList P ops Q (o :: rest) a w := by
  refine wpList_plain hgd fun K hK' => ?_
  have e : (execOp a.eval o).run P w = .ok (.value (.bool b)) w := by
    unfold execOp
    rw [ho]
    simp only [hx, hy, Sem.run_bind, hg, hr, Result.andThen_ok, Sem.run_pure]
  unfold Oper.wp
  rw [e]
  exact hK' _ _ h
theorem wpl_load_midG {P : Program} {ops : Array Oper} {rest : List Oper} {op : Oper} {a : Act} {w : World} {Q : Exit → Act → World → Prop} (hw : Region.wanted op (yielded ops a.tmps) = true) (ty : TypeId) (x : Operand) (ho : op.op = .load ty x)
    (b o : Nat) (hx : a.eval x = .pointer (some ⟨b, o, none⟩)) (cs : List Value) (d : TypeDesc) (hc : w.rangeAt b o cs)
    (hu : P.underlying ty = some d) (hd : d.isRow = true) (hi : (P.info? ty).map (·.size) = some cs.length)
    (h : wpList P ops Q rest (a.put op.dst (.agg cs.toArray)) w) : wpList P ops Q (op :: rest) a w :=
  wpList_wanted hw fun _ hK => wp_load_mid ty x ho b o hx cs d hc hu hd hi (hK _ _ h)
/-- a function's two results: a struct in a cell, and a value -/
theorem results_cell_tmp {P : Program} {fn : Func} {p u : Tmp} {ty : TypeId} (h : fn.results = #[.cell p ty, .tmp u]) (tmps : Array Value) (w : World) (g : Nat) (t : TypeId) (cs : Array Value) (fr : Nat × Nat) (d : TypeDesc)
    (hp : tmps.getD p undef = .pointer (some ⟨g, 0, none⟩)) (hg : w.heap[g]? = some (.cells cs t fr))
    (hu : P.underlying ty = some d) (hd : (match d with | .struct _ | .array _ _ => true | _ => false) = true) (hi : (P.info? ty).map (·.size) = some cs.size) :
    (results fn tmps).run P w = .ok (.tuple #[.agg cs, tmps.getD u undef]) w := by
  have hp' : tmps[p]?.getD undef = .pointer (some ⟨g, 0, none⟩) := by simpa using hp
  simp [results, h, hp', asAddr, run_loadVar_row w g t ty cs fr d hg hu hd hi]
end Go.Proofs.YtbjbjgfjaopibaaGreatDoor
end

section
/- Lists that grow by append, the block of their elements told; pairs of keys and values. -/
namespace Go.Proofs.YtbjbjgfjaopibaaGreatDoor
open Go Go.RowKit
set_option linter.unusedSimpArgs false
set_option linter.unusedVariables false
set_option maxRecDepth 100000

section
variable {α : Type} {K : EKind α} {w w' : World} {G : Nat} {o : Option Nat} {v : Value} {X : List α} {e : TypeId}
/-- a list that grows by append; o: where its elements lie -/
def LstO (K : EKind α) (e : TypeId) (w : World) (G : Nat) (o : Option Nat) (v : Value) (X : List α) : Prop :=
  RowV w e K.k v X.length (X.flatMap K.cs) o ∧ (∀ g, o = some g → G ≤ g) ∧ ∀ x ∈ X, K.at' (fun b => G ≤ b ∧ b < w.heap.size ∧ o ≠ some b) w x
theorem LstO.nil (K : EKind α) (e : TypeId) (w : World) (G : Nat) : LstO K e w G none (.slice none 0 0) [] := ⟨RowV.nil _ _ _, fun g hg => (by cases hg), fun x hx => (by cases hx)⟩
theorem LstO.lst (h : LstO K e w G o v X) : LstAt K e w G v X := ⟨o, h⟩
theorem LstO.keep {Y : Nat → Prop} (h : LstO K e w G o v X) (hk : Keep Y w w') (hn : ∀ b, G ≤ b → b < w.heap.size → ¬ Y b) : LstO K e w' G o v X :=
  ⟨h.1.keep hk (fun g hg => hn g (h.2.1 g hg) (h.1.lt g hg)), h.2.1, fun x hx => K.mono (K.keep (h.2.2 x hx) hk (fun b hb => hn b hb.1 hb.2.1)) (fun b hb => ⟨hb.1, Nat.lt_of_lt_of_le hb.2.1 hk.size, hb.2.2⟩)⟩
theorem LstO.more (h : LstO K e w G o v X) (hb : Below w.heap.size w w') : LstO K e w' G o v X := h.keep (Y := fun _ => False) (Keep.of_below hb) (fun _ _ _ h => h)
theorem LstO.base {G' : Nat} (h : LstO K e w G o v X) (hG : G' ≤ G) : LstO K e w G' o v X := ⟨h.1, fun g hg => Nat.le_trans hG (h.2.1 g hg), fun x hx => K.mono (h.2.2 x hx) (fun b hb => ⟨Nat.le_trans hG hb.1, hb.2⟩)⟩
theorem LstO.lt (h : LstO K e w G o v X) : ∀ g, o = some g → g < w.heap.size := h.1.lt
/-- an element put behind, that lies elsewhere -/
theorem LstO.add {P : Program} {i : TypeInfo} {z : Value} {by1 : Nat} (t : TypeId) (ht : P.underlying t = some (.slice e)) (hi : P.info? e = some i) (hz : i.zero = some z) (hs : i.size = K.k) (hby : i.bytes = by1) (hzs : z.cells.size = K.k) (hk : 0 < K.k)
    (h : LstO K e w G o v X) (hG : G ≤ w.heap.size) {x : α} (hx : K.at' (fun b => G ≤ b ∧ b < w.heap.size ∧ o ≠ some b) w x) (hmax : X.length + 1 ≤ maxLen) (hby2 : (X.length + 1) * by1 ≤ 140737488355328) :
    ∃ q n c w' o', v = .slice q X.length n ∧ (Builtin.append_ #[t, t] t #[v, .slice (some ⟨w.heap.size, 0, none⟩) 1 1]).run P (w.alloc (.cells (K.cs x).toArray e)) = .ok c w' ∧ LstO K e w' G o' c (X ++ [x]) ∧ Keep (fun k => o = some k) w w' ∧ (o' = o ∨ ∃ g, o' = some g ∧ w.heap.size ≤ g) := by
  obtain ⟨h1, h2, h3⟩ := h
  obtain ⟨q, n, rfl, _⟩ := h1.form
  have ka := (Keep.refl (fun _ => False) w).alloc (.cells (K.cs x).toArray e)
  have rv := h1.keep ka (fun _ _ h => h)
  have hsz : (w.alloc (.cells (K.cs x).toArray e)).heap.size = w.heap.size + 1 := by simp
  have hlt : ∀ g, o = some g → g < w.heap.size := fun g hg => h1.lt g hg
  obtain ⟨v', w', g', r1, r2, r3, r4⟩ := rowV_append (P := P) t t i z ht hi hz hs hby hzs hk rv (a := ⟨w.heap.size, 0, none⟩) (m := 1) (c := 1) (news := K.cs x) (by rw [K.len, Nat.one_mul]) (fun j u hu => by
    rw [Addr.add_lit, Nat.zero_add, (Blk.new w (K.cs x).toArray e).cell, List.getElem?_toArray]; exact hu) (K.one x) (by decide) hmax hby2
  have e5 : (X ++ [x]).length = X.length + 1 := by simp
  have hsize := r4.size
  have hnew : ∀ b, b < w.heap.size → o ≠ some b → some g' ≠ some b := fun b hb hne e => by
    cases e
    rcases r3 with h | h
    · exact hne h
    · rw [hsz] at h; omega
  have hel : ∀ y, K.at' (fun b => G ≤ b ∧ b < w.heap.size ∧ o ≠ some b) w y → K.at' (fun b => G ≤ b ∧ b < w'.heap.size ∧ some g' ≠ some b) w' y := fun y hy =>
    K.mono (K.keep (K.keep hy ka (fun _ _ h => h)) r4 (fun b hb' => hb'.2.2)) (fun b hb' => ⟨hb'.1, by have := hb'.2.1; omega, hnew b hb'.2.1 hb'.2.2⟩)
  refine ⟨q, n, v', w', some g', rfl, r1, ⟨?_, fun g hg => ?_, fun y hy => ?_⟩, (ka.mono (fun _ h => h.elim)).trans r4, ?_⟩
  · rw [e5, List.flatMap_append, List.flatMap_singleton]; exact r2
  · cases hg
    rcases r3 with h | h
    · exact h2 _ h
    · rw [hsz] at h; omega
  · rcases List.mem_append.1 hy with hy | hy
    · exact hel y (h3 y hy)
    · rw [List.mem_singleton.1 hy]; exact hel x hx
  · rcases r3 with h | h
    · exact .inl h.symm
    · exact .inr ⟨g', rfl, by rw [hsz] at h; omega⟩
end
end Go.Proofs.YtbjbjgfjaopibaaGreatDoor
end
