import Derived.Test.YtgedpgdefafofaaDoorPack2
import Derived.Test.YtgedpgdefafofaaDoorPack1
import Derived.Lib.AppendZerosOnto
import Derived.Deep.RegionHeld3
import Derived.WalkKit
import Derived.Test.YtgedpgdefafofaaDoorRows
import Derived.Deep.LoopGhost
import Derived.Lib.AppendZeros
section
/- A block that came in: its header, transactions, inputs, outputs. -/
namespace Go.Proofs.YtgedpgdefafofaaDoor
open Go Go.ChangeShapes Go.WideShapes Go.ChangeAt Go.RowKit
set_option linter.unusedVariables false
set_option maxRecDepth 100000

/-- n elements of k cells each in a slice that came in: what each has -/
def ElemsIn {α : Type} (w : World) (a : Option Addr) (n k : Nat) (cs : α → List Value) (ok : World → α → Prop) (X : Nat → α) : Prop :=
  ∀ i, i < n → ∃ b o, a = some ⟨b, o, none⟩ ∧ (cs (X i)).length = k ∧ CellsAt w b (o + i * k) (cs (X i)) ∧ ok w (X i)
theorem ElemsIn.below {α : Type} {w w' : World} {a : Option Addr} {n k : Nat} {cs : α → List Value} {ok : World → α → Prop} {X : Nat → α} (h : ElemsIn w a n k cs ok X) (hb : Below w.heap.size w w') (hok : ∀ x, ok w x → ok w' x) : ElemsIn w' a n k cs ok X := fun i hi => by
  obtain ⟨b, o, h1, h2, h3, h4⟩ := h i hi
  exact ⟨b, o, h1, h2, h3.below hb, hok _ h4⟩
theorem ElemsIn.row {α : Type} {w : World} {a : Option Addr} {n k : Nat} {cs : α → List Value} {ok : World → α → Prop} {X : Nat → α} (h : ElemsIn w a n k cs ok X) {i : Nat} (hi : i < n) : ok w (X i) := by
  obtain ⟨_, _, _, _, _, h⟩ := h i hi
  exact h
/-- a slice's head and its elements -/
structure SlD (α : Type) where
  a : Option Addr
  n : Nat
  c : Nat
  x : Nat → α
def SlD.cell {α : Type} (s : SlD α) : Value := .slice s.a s.n s.c
def SlOk {α : Type} (M k : Nat) (cs : α → List Value) (ok : World → α → Prop) (w : World) (s : SlD α) : Prop :=
  s.n ≤ s.c ∧ s.c ≤ M ∧ (s.a = none → s.c = 0) ∧ ElemsIn w s.a s.n k cs ok s.x
theorem SlOk.below {α : Type} {M k : Nat} {cs : α → List Value} {ok : World → α → Prop} {w w' : World} {s : SlD α} (h : SlOk M k cs ok w s) (hb : Below w.heap.size w w') (hok : ∀ x, ok w x → ok w' x) : SlOk M k cs ok w' s :=
  ⟨h.1, h.2.1, h.2.2.1, h.2.2.2.below hb hok⟩
/-- a slice, out of what came in -/
theorem Ok.sl {α : Type} {P : Program} {w : World} {M f : Nat} {t e : TypeId} {c : List Value} {k : Nat} {cs : α → List Value} {ok : World → α → Prop} (ht : P.underlying t = some (.slice e)) (hk : P.cellsOf e = k) (h : Ok P w M (f + 1) t c) (x0 : α)
    (he : ∀ c', Ok P w M f e c' → ∃ x, c' = cs x ∧ ok w x) : ∃ s : SlD α, c = [s.cell] ∧ SlOk M k cs ok w s := by
  obtain ⟨a, len, cap, rfl, h1, h2, h3, h4⟩ := h.slice ht
  have each : ∀ i, i < len → ∃ x : α, ∃ b o, a = some ⟨b, o, none⟩ ∧ (cs x).length = k ∧ CellsAt w b (o + i * k) (cs x) ∧ ok w x := fun i hi => by
    obtain ⟨b, o, cs', e1, e2, e3, e4⟩ := h4 i hi
    obtain ⟨x, rfl, hx⟩ := he cs' e4
    rw [hk] at e2 e3
    exact ⟨x, b, o, e1, e2, e3, hx⟩
  rcases Nat.eq_zero_or_pos len with h0 | h0
  · exact ⟨⟨a, len, cap, fun _ => x0⟩, rfl, h1, h2, h3, fun i hi => by have hi' : i < len := hi; omega⟩
  · have : Nonempty α := ⟨x0⟩
    have each' : ∀ i, ∃ x : α, i < len → ∃ b o, a = some ⟨b, o, none⟩ ∧ (cs x).length = k ∧ CellsAt w b (o + i * k) (cs x) ∧ ok w x := fun i => by
      rcases Nat.lt_or_ge i len with hi | hi
      · obtain ⟨x, hx⟩ := each i hi
        exact ⟨x, fun _ => hx⟩
      · exact ⟨x0, fun h => absurd h (by omega)⟩
    exact ⟨⟨a, len, cap, fun i => Classical.choose (each' i)⟩, rfl, h1, h2, h3, fun i hi => Classical.choose_spec (each' i) hi⟩
/-- bytes: a row -/
structure RwD where
  a : Option Addr
  c : Nat
  z : List Int
def RwD.cell (r : RwD) : Value := .slice r.a r.z.length r.c
def RwOk (M : Nat) (w : World) (r : RwD) : Prop := RowOf w r.cell r.a r.c r.z ∧ r.c ≤ M
theorem RwOk.below {M : Nat} {w w' : World} {r : RwD} (h : RwOk M w r) (hb : Below w.heap.size w w') : RwOk M w' r := ⟨h.1.below hb, h.2⟩
theorem Ok.row {w : World} {M f : Nat} {c : List Value} (hM : M ≤ 1048576) (h : Ok Tryd.prog w M (f + 2) 30 c) : ∃ r : RwD, c = [r.cell] ∧ RwOk M w r := by
  obtain ⟨a, len, cap, rfl, h1, h2, h3, h4⟩ := h.slice Tryd.underlying30
  have hk : Tryd.prog.cellsOf 5 = 1 := by kernel_rfl
  have each : ∀ i, ∃ z : Int, i < len → ∃ b o, a = some ⟨b, o, none⟩ ∧ w.cell? ⟨b, o + i, none⟩ = some (.int .u8 z) ∧ 0 ≤ z ∧ z ≤ 255 := fun i => by
    rcases Nat.lt_or_ge i len with hi | hi
    · obtain ⟨b, o, cs', e1, e2, e3, e4⟩ := h4 i hi
      obtain ⟨z, rfl, hz⟩ := e4.int Tryd.underlying5
      rw [hk, Nat.mul_one] at e3
      exact ⟨z, fun _ => ⟨b, o, e1, by have := e3 0 (by simp); simpa using this, bounds_u8 hz⟩⟩
    · exact ⟨0, fun h => absurd h (by omega)⟩
  have hZ : ∃ Z : Nat → Int, ∀ i, i < len → ∃ b o, a = some ⟨b, o, none⟩ ∧ w.cell? ⟨b, o + i, none⟩ = some (.int .u8 (Z i)) ∧ 0 ≤ Z i ∧ Z i ≤ 255 := ⟨fun i => Classical.choose (each i), fun i hi => Classical.choose_spec (each i) hi⟩
  obtain ⟨Z, hZ⟩ := hZ
  have hl : ((List.range len).map Z).length = len := by simp
  refine ⟨⟨a, cap, (List.range len).map Z⟩, by unfold RwD.cell; rw [hl], ⟨rfl, ?_, by rw [hl]; omega, by rw [hl]; exact h1, by show cap ≤ _; omega, h3, fun y hy => ?_, fun q hq h0 => ?_⟩, h2⟩
  · rw [hl]
    refine fun h0 => ?_
    obtain ⟨b, o, e1, _⟩ := hZ 0 h0
    refine ⟨b, o, e1, fun i hi => ?_⟩
    obtain ⟨b', o', e2, e3, _⟩ := hZ i hi
    rw [e1] at e2
    cases e2
    rw [e3]
    simp [List.getD_eq_getElem?_getD, hi]
  · obtain ⟨i, hi, rfl⟩ := List.mem_map.1 hy
    obtain ⟨_, _, _, _, h1, h2⟩ := hZ i (List.mem_range.1 hi)
    exact ⟨h1, h2⟩
  · rw [hl] at h0
    obtain ⟨b, o, e1, e3, _⟩ := hZ 0 h0
    have hq' : a = some q := hq
    rw [e1] at hq'
    cases hq'
    exact cell_lt e3
theorem Ok.hash {w : World} {M f : Nat} {c : List Value} (h : Ok Tryd.prog w M (f + 2) 24 c) : ∃ n, n < W256 ∧ c = hls n := by
  obtain ⟨hl, h1⟩ := h.array (n := 32) (e := 5) Tryd.underlying24
  have hk : Tryd.prog.cellsOf 5 = 1 := by kernel_rfl
  have hk2 : Tryd.prog.cellsOf 24 = 32 := by kernel_rfl
  rw [hk2] at hl
  have each : ∀ i, ∃ z : Int, i < 32 → c[i]? = some (.int .u8 z) ∧ 0 ≤ z ∧ z ≤ 255 := fun i => by
    rcases Nat.lt_or_ge i 32 with hi | hi
    · have := h1 i hi
      rw [hk, Nat.mul_one] at this
      obtain ⟨z, e, hz⟩ := this.int Tryd.underlying5
      refine ⟨z, fun _ => ⟨?_, bounds_u8 hz⟩⟩
      have e2 := congrArg (fun l => l[0]?) e
      simpa [List.getElem?_take, List.getElem?_drop] using e2
    · exact ⟨0, fun h => absurd h (by omega)⟩
  have hZ : ∃ Z : Nat → Int, ∀ i, i < 32 → c[i]? = some (.int .u8 (Z i)) ∧ 0 ≤ Z i ∧ Z i ≤ 255 := ⟨fun i => Classical.choose (each i), fun i hi => Classical.choose_spec (each i) hi⟩
  obtain ⟨Z, hZ⟩ := hZ
  have b : ∀ i, i < 32 → 0 ≤ Z i ∧ Z i ≤ 255 := fun i hi => (hZ i hi).2
  refine ⟨hnum Z 32, hnum_lt Z 32 b, ?_⟩
  rw [← hls_of Z b]
  apply List.ext_getElem?
  intro i
  by_cases hi : i < 32
  · rw [(hZ i hi).1]; simp [hi]
  · rw [List.getElem?_eq_none (by omega), List.getElem?_eq_none (by simp; omega)]
/-- an output -/
structure OutD where
  val : Int
  script : RwD
def outCs (x : OutD) : List Value := [.int .i64 x.val, x.script.cell]
def OutOk (M : Nat) (w : World) (x : OutD) : Prop := RwOk M w x.script ∧ (Lit.int .i64 x.val).wf = true
/-- an input -/
structure InD where
  id : Nat
  index : Int
  script : RwD
  seq : Int
  wit : SlD RwD
def inCs (x : InD) : List Value := hls x.id ++ [.int .u32 x.index, x.script.cell, .int .u32 x.seq, x.wit.cell]
def InOk (M : Nat) (w : World) (x : InD) : Prop := x.id < W256 ∧ (Lit.int .u32 x.index).wf = true ∧ RwOk M w x.script ∧ (Lit.int .u32 x.seq).wf = true ∧ SlOk M 1 (fun r : RwD => [r.cell]) (RwOk M) w x.wit
/-- a transaction -/
structure TxD where
  ver : Int
  ins : SlD InD
  outs : SlD OutD
  lock : Int
def txCs (x : TxD) : List Value := [.int .u32 x.ver, x.ins.cell, x.outs.cell, .int .u32 x.lock]
def TxOk (M : Nat) (w : World) (x : TxD) : Prop := (Lit.int .u32 x.ver).wf = true ∧ SlOk M 36 inCs (InOk M) w x.ins ∧ SlOk M 2 outCs (OutOk M) w x.outs ∧ (Lit.int .u32 x.lock).wf = true
/-- a header -/
structure HdrD where
  ver : Int
  prev : Nat
  merkle : Nat
  time : Int
  bits : Int
  nonce : Int
def hdrCs (x : HdrD) : List Value := [.int .u32 x.ver] ++ hls x.prev ++ hls x.merkle ++ [.int .u32 x.time, .int .u32 x.bits, .int .u32 x.nonce]
def HdrOk (x : HdrD) : Prop := (Lit.int .u32 x.ver).wf = true ∧ x.prev < W256 ∧ x.merkle < W256 ∧ (Lit.int .u32 x.time).wf = true ∧ (Lit.int .u32 x.bits).wf = true ∧ (Lit.int .u32 x.nonce).wf = true
/-- a block -/
structure BlkD where
  hdr : HdrD
  txs : SlD TxD
def blkCs (x : BlkD) : List Value := hdrCs x.hdr ++ [x.txs.cell]
def BlkOk (M : Nat) (w : World) (x : BlkD) : Prop := HdrOk x.hdr ∧ SlOk M 4 txCs (TxOk M) w x.txs
section
variable {w w' : World} {M f : Nat}
theorem OutOk.below {x : OutD} (hb : Below w.heap.size w w') (h : OutOk M w x) : OutOk M w' x := ⟨h.1.below hb, h.2⟩
theorem InOk.below {x : InD} (hb : Below w.heap.size w w') (h : InOk M w x) : InOk M w' x := ⟨h.1, h.2.1, h.2.2.1.below hb, h.2.2.2.1, h.2.2.2.2.below hb (fun x hx => hx.below hb)⟩
theorem TxOk.below {x : TxD} (hb : Below w.heap.size w w') (h : TxOk M w x) : TxOk M w' x := ⟨h.1, h.2.1.below hb (fun x hx => InOk.below hb hx), h.2.2.1.below hb (fun x hx => OutOk.below hb hx), h.2.2.2⟩
theorem BlkOk.below {x : BlkD} (hb : Below w.heap.size w w') (h : BlkOk M w x) : BlkOk M w' x := ⟨h.1, h.2.below hb (fun x hx => TxOk.below hb hx)⟩
end
section
variable {w : World} {M f : Nat} {c : List Value}
theorem ok_out (hM : M ≤ 1048576) (h : Ok Tryd.prog w M (f + 3) 79 c) : ∃ x, c = outCs x ∧ OutOk M w x := by
  obtain ⟨hl, hf⟩ := h.struct Tryd.underlying79
  rw [show Tryd.prog.cellsOf 79 = 2 from by kernel_rfl] at hl
  obtain ⟨c0, c1, rfl⟩ : ∃ c0 c1, c = [c0, c1] := by
    match c, hl with
    | [c0, c1], _ => exact ⟨c0, c1, rfl⟩
  have k0 : Tryd.prog.cellsOf 2 = 1 := by kernel_rfl
  have k1 : Tryd.prog.cellsOf 30 = 1 := by kernel_rfl
  have g0 : Ok Tryd.prog w M (f + 2) 2 [c0] := by have := hf 0 _ rfl; simpa [k0] using this
  have g1 : Ok Tryd.prog w M (f + 2) 30 [c1] := by have := hf 1 _ rfl; simpa [k1] using this
  obtain ⟨z, e0, hz⟩ := g0.int Tryd.underlying2
  obtain ⟨r, e1, hr⟩ := g1.row hM
  cases e0; cases e1
  exact ⟨⟨z, r⟩, rfl, hr, hz⟩
theorem ok_wit (hM : M ≤ 1048576) (h : Ok Tryd.prog w M (f + 3) 34 c) : ∃ s : SlD RwD, c = [s.cell] ∧ SlOk M 1 (fun r : RwD => [r.cell]) (RwOk M) w s :=
  h.sl Tryd.underlying34 (by kernel_rfl) ⟨none, 0, []⟩ (fun c' hc => hc.row hM)
theorem ok_in (hM : M ≤ 1048576) (h : Ok Tryd.prog w M (f + 5) 170 c) : ∃ x, c = inCs x ∧ InOk M w x := by
  obtain ⟨hl, hf⟩ := h.struct Tryd.underlying170
  have k0 : Tryd.prog.cellsOf 168 = 33 := by kernel_rfl
  have k1 : Tryd.prog.cellsOf 30 = 1 := by kernel_rfl
  have k2 : Tryd.prog.cellsOf 22 = 1 := by kernel_rfl
  have k3 : Tryd.prog.cellsOf 34 = 1 := by kernel_rfl
  have k4 : Tryd.prog.cellsOf 24 = 32 := by kernel_rfl
  rw [show Tryd.prog.cellsOf 170 = 36 from by kernel_rfl] at hl
  have g0 : Ok Tryd.prog w M (f + 4) 168 (c.take 33) := by have := hf 0 _ rfl; simpa [k0] using this
  have g1 : Ok Tryd.prog w M (f + 4) 30 ((c.drop 33).take 1) := by have := hf 1 _ rfl; simpa [k1] using this
  have g2 : Ok Tryd.prog w M (f + 4) 22 ((c.drop 34).take 1) := by have := hf 2 _ rfl; simpa [k2] using this
  have g3 : Ok Tryd.prog w M (f + 4) 34 ((c.drop 35).take 1) := by have := hf 3 _ rfl; simpa [k3] using this
  obtain ⟨_, hp⟩ := g0.struct Tryd.underlying168
  have p0 : Ok Tryd.prog w M (f + 3) 24 (c.take 32) := by have := hp 0 _ rfl; simpa [k4, List.take_take] using this
  have p1 : Ok Tryd.prog w M (f + 3) 22 ((c.drop 32).take 1) := by
    have : Ok Tryd.prog w M (f + 3) 22 (((c.take 33).drop 32).take (Tryd.prog.cellsOf 22)) := hp 1 _ rfl
    rw [k2, List.drop_take, List.take_take] at this
    exact this
  obtain ⟨n, hn, e0⟩ := Ok.hash (f := f + 1) p0
  obtain ⟨ix, e1, hix⟩ := p1.int Tryd.underlying22
  obtain ⟨r, e2, hr⟩ := Ok.row (f := f + 2) hM g1
  obtain ⟨sq, e3, hsq⟩ := g2.int Tryd.underlying22
  obtain ⟨s, e4, hs⟩ := ok_wit (f := f + 1) hM g3
  refine ⟨⟨n, ix, r, sq, s⟩, ?_, hn, hix, hr, hsq, hs⟩
  have e : c = c.take 32 ++ ((c.drop 32).take 1 ++ ((c.drop 33).take 1 ++ ((c.drop 34).take 1 ++ (c.drop 35).take 1))) := by
    have s1 : (c.drop 35).take 1 = c.drop 35 := List.take_of_length_le (by rw [List.length_drop]; omega)
    have d1 : ∀ k, (c.drop k).take 1 ++ c.drop (k + 1) = c.drop k := fun k => by rw [← List.drop_drop]; exact List.take_append_drop 1 (c.drop k)
    rw [s1, d1 34, d1 33, d1 32, List.take_append_drop]
  rw [e, e0, e1, e2, e3, e4]
  rfl
theorem ok_tx (hM : M ≤ 1048576) (h : Ok Tryd.prog w M (f + 7) 77 c) : ∃ x, c = txCs x ∧ TxOk M w x := by
  obtain ⟨hl, hf⟩ := h.struct Tryd.underlying77
  rw [show Tryd.prog.cellsOf 77 = 4 from by kernel_rfl] at hl
  obtain ⟨c0, c1, c2, c3, rfl⟩ : ∃ c0 c1 c2 c3, c = [c0, c1, c2, c3] := by
    match c, hl with
    | [c0, c1, c2, c3], _ => exact ⟨c0, c1, c2, c3, rfl⟩
  have k0 : Tryd.prog.cellsOf 22 = 1 := by kernel_rfl
  have k1 : Tryd.prog.cellsOf 74 = 1 := by kernel_rfl
  have k2 : Tryd.prog.cellsOf 75 = 1 := by kernel_rfl
  have g0 : Ok Tryd.prog w M (f + 6) 22 [c0] := by have := hf 0 _ rfl; simpa [k0] using this
  have g1 : Ok Tryd.prog w M (f + 6) 74 [c1] := by have := hf 1 _ rfl; simpa [k1] using this
  have g2 : Ok Tryd.prog w M (f + 6) 75 [c2] := by have := hf 2 _ rfl; simpa [k2] using this
  have g3 : Ok Tryd.prog w M (f + 6) 22 [c3] := by have := hf 3 _ rfl; simpa [k0] using this
  obtain ⟨v, e0, hv⟩ := g0.int Tryd.underlying22
  obtain ⟨si, e1, hi⟩ := Ok.sl (f := f + 5) Tryd.underlying74 (by kernel_rfl) g1 (⟨0, 0, ⟨none, 0, []⟩, 0, ⟨none, 0, 0, fun _ => ⟨none, 0, []⟩⟩⟩ : InD) (fun c' hc => ok_in hM hc)
  obtain ⟨so, e2, ho⟩ := Ok.sl (f := f + 5) Tryd.underlying75 (by kernel_rfl) g2 (⟨0, ⟨none, 0, []⟩⟩ : OutD) (fun c' hc => ok_out (f := f + 2) hM hc)
  obtain ⟨lk, e3, hlk⟩ := g3.int Tryd.underlying22
  cases e0; cases e1; cases e2; cases e3
  exact ⟨⟨v, si, so, lk⟩, rfl, hv, hi, ho, hlk⟩
theorem ok_hdr (h : Ok Tryd.prog w M (f + 3) 26 c) : ∃ x, c = hdrCs x ∧ HdrOk x := by
  obtain ⟨hl, hf⟩ := h.struct Tryd.underlying26
  rw [show Tryd.prog.cellsOf 26 = 68 from by kernel_rfl] at hl
  have k0 : Tryd.prog.cellsOf 22 = 1 := by kernel_rfl
  have k4 : Tryd.prog.cellsOf 24 = 32 := by kernel_rfl
  have g0 : Ok Tryd.prog w M (f + 2) 22 (c.take 1) := by have := hf 0 _ rfl; simpa [k0] using this
  have g1 : Ok Tryd.prog w M (f + 2) 24 ((c.drop 1).take 32) := by have := hf 1 _ rfl; simpa [k4] using this
  have g2 : Ok Tryd.prog w M (f + 2) 24 ((c.drop 33).take 32) := by have := hf 2 _ rfl; simpa [k4] using this
  have g3 : Ok Tryd.prog w M (f + 2) 22 ((c.drop 65).take 1) := by have := hf 3 _ rfl; simpa [k0] using this
  have g4 : Ok Tryd.prog w M (f + 2) 22 ((c.drop 66).take 1) := by have := hf 4 _ rfl; simpa [k0] using this
  have g5 : Ok Tryd.prog w M (f + 2) 22 ((c.drop 67).take 1) := by have := hf 5 _ rfl; simpa [k0] using this
  obtain ⟨v, e0, hv⟩ := g0.int Tryd.underlying22
  obtain ⟨n, hn, e1⟩ := g1.hash
  obtain ⟨m, hm, e2⟩ := g2.hash
  obtain ⟨t, e3, ht⟩ := g3.int Tryd.underlying22
  obtain ⟨b, e4, hb⟩ := g4.int Tryd.underlying22
  obtain ⟨o, e5, ho⟩ := g5.int Tryd.underlying22
  refine ⟨⟨v, n, m, t, b, o⟩, ?_, hv, hn, hm, ht, hb, ho⟩
  have e : c = c.take 1 ++ ((c.drop 1).take 32 ++ ((c.drop 33).take 32 ++ ((c.drop 65).take 1 ++ ((c.drop 66).take 1 ++ (c.drop 67).take 1)))) := by
    have s1 : (c.drop 67).take 1 = c.drop 67 := List.take_of_length_le (by rw [List.length_drop]; omega)
    have d1 : ∀ k m, (c.drop k).take m ++ c.drop (k + m) = c.drop k := fun k m => by rw [← List.drop_drop]; exact List.take_append_drop m (c.drop k)
    rw [s1, d1 66 1, d1 65 1, d1 33 32, d1 1 32, List.take_append_drop]
  rw [e, e0, e1, e2, e3, e4, e5]
  simp [hdrCs]
theorem ok_blk (hM : M ≤ 1048576) (h : Ok Tryd.prog w M (f + 9) 29 c) : ∃ x, c = blkCs x ∧ BlkOk M w x := by
  obtain ⟨hl, hf⟩ := h.struct Tryd.underlying29
  rw [show Tryd.prog.cellsOf 29 = 69 from by kernel_rfl] at hl
  have k0 : Tryd.prog.cellsOf 26 = 68 := by kernel_rfl
  have k1 : Tryd.prog.cellsOf 27 = 1 := by kernel_rfl
  have g0 : Ok Tryd.prog w M (f + 8) 26 (c.take 68) := by have := hf 0 _ rfl; simpa [k0] using this
  have g1 : Ok Tryd.prog w M (f + 8) 27 ((c.drop 68).take 1) := by have := hf 1 _ rfl; simpa [k1] using this
  obtain ⟨h0, e0, hh⟩ := ok_hdr (f := f + 5) g0
  obtain ⟨st, e1, ht⟩ := Ok.sl (f := f + 7) Tryd.underlying27 (by kernel_rfl) g1 (⟨0, ⟨none, 0, 0, fun _ => ⟨0, 0, ⟨none, 0, []⟩, 0, ⟨none, 0, 0, fun _ => ⟨none, 0, []⟩⟩⟩⟩, ⟨none, 0, 0, fun _ => ⟨0, ⟨none, 0, []⟩⟩⟩, 0⟩ : TxD) (fun c' hc => ok_tx hM hc)
  refine ⟨⟨h0, st⟩, ?_, hh, ht⟩
  have e : c = c.take 68 ++ (c.drop 68).take 1 := by
    rw [show (c.drop 68).take 1 = c.drop 68 from List.take_of_length_le (by rw [List.length_drop]; omega), List.take_append_drop]
  rw [e, e0, e1]
  rfl
end
end Go.Proofs.YtgedpgdefafofaaDoor
end

section
/- A slice of elements of any kind, in a block of its own. No program in sight. -/
namespace Go.Proofs.YtgedpgdefafofaaDoor
open Go Go.RowKit

/-- v is a slice of n elements of k cells each, the cells cs: nil (o = none), or from the head of block g on (o = some g) -/
def RowV (w : World) (e : TypeId) (k : Nat) (v : Value) (n : Nat) (cs : List Value) (o : Option Nat) : Prop :=
  cs.length = n * k ∧ ((v = .slice none 0 0 ∧ n = 0 ∧ o = none) ∨ ∃ g cap cur, o = some g ∧ v = .slice (some ⟨g, 0, none⟩) n cap ∧ Blk w g cur e ∧ n ≤ cap ∧ cap * k ≤ cur.size ∧ cap ≤ maxLen ∧ cur.toList.take (n * k) = cs)
section
variable {w w' : World} {e : TypeId} {k : Nat} {v : Value} {n : Nat} {cs : List Value} {o : Option Nat} {g : Nat}
theorem RowV.nil (w : World) (e : TypeId) (k : Nat) : RowV w e k (.slice none 0 0) 0 [] none := ⟨by simp, .inl ⟨rfl, rfl, rfl⟩⟩
theorem RowV.keep {X : Nat → Prop} (h : RowV w e k v n cs o) (hk : Keep X w w') (hn : ∀ g, o = some g → ¬ X g) : RowV w' e k v n cs o := by
  obtain ⟨hl, h | ⟨g, cap, cur, h0, h1, h2, h3⟩⟩ := h
  · exact ⟨hl, .inl h⟩
  · exact ⟨hl, .inr ⟨g, cap, cur, h0, h1, hk.blk h2 (hn g h0), h3⟩⟩
theorem RowV.lt (h : RowV w e k v n cs o) : ∀ g, o = some g → g < w.heap.size := by
  intro g hg
  obtain ⟨hl, ⟨_, _, h0⟩ | ⟨g', cap, cur, h0, h1, h2, h3⟩⟩ := h
  · rw [h0] at hg; cases hg
  · rw [h0] at hg; cases hg; exact h2.lt
/-- what it looks like -/
theorem RowV.form (h : RowV w e k v n cs o) : ∃ p c, v = .slice p n c ∧ n ≤ c ∧ c ≤ maxLen ∧ (p = none ∧ n = 0 ∧ c = 0 ∧ o = none ∨ ∃ g, o = some g ∧ p = some ⟨g, 0, none⟩ ∧ g < w.heap.size) := by
  obtain ⟨hl, ⟨rfl, rfl, rfl⟩ | ⟨g, cap, cur, h0, h1, h2, h3, h4, h5, h6⟩⟩ := h
  · exact ⟨none, 0, rfl, Nat.le_refl _, Nat.zero_le _, .inl ⟨rfl, rfl, rfl, rfl⟩⟩
  · exact ⟨_, cap, h1, h3, h5, .inr ⟨g, h0, rfl, h2.lt⟩⟩
/-- one that has elements lies in a block -/
theorem RowV.mem (h : RowV w e k v n cs o) (h0 : 0 < n) : ∃ g cap, o = some g ∧ v = .slice (some ⟨g, 0, none⟩) n cap ∧ n ≤ cap ∧ cap ≤ maxLen ∧ g < w.heap.size ∧ (∀ j, j < n * k → w.cell? ⟨g, j, none⟩ = cs[j]?) ∧ (∀ j, w.frozen? ⟨g, j, none⟩ = false) := by
  obtain ⟨hl, ⟨rfl, rfl, rfl⟩ | ⟨g, cap, cur, h0, h1, h2, h3, h4, h5, h6⟩⟩ := h
  · omega
  · exact ⟨g, cap, h0, h1, h3, h5, h2.lt, fun j hj => by rw [h2.cell, ← h6, List.getElem?_take, if_pos hj]; simp, fun j => h2.free j⟩
/-- a cell of it set -/
theorem RowV.set {cap : Nat} (h : RowV w e k (.slice (some ⟨g, 0, none⟩) n cap) n cs (some g)) (j : Nat) (u : Value) (_ : j < n * k) : RowV (w.setCell ⟨g, j, none⟩ u) e k (.slice (some ⟨g, 0, none⟩) n cap) n (cs.set j u) (some g) := by
  obtain ⟨hl, ⟨h1, _, _⟩ | ⟨g', cap', cur, h0, h1, h2, h3, h4, h5, h6⟩⟩ := h
  · cases h1
  · cases h0; cases h1
    refine ⟨by simp [hl], .inr ⟨g, cap, _, rfl, rfl, h2.set j u, h3, by simpa using h4, h5, ?_⟩⟩
    rw [← h6]; simp [List.take_set]
theorem RowV.toRow {xs : List Int} (h : RowV w e 1 v n (u8s xs) o) : Row w e v xs o := by
  obtain ⟨hl, h⟩ := h
  rw [u8s_length, Nat.mul_one] at hl
  subst hl
  rcases h with ⟨h1, h2, h3⟩ | ⟨g, cap, cur, h0, h1, h2, h3, h4, h5, h6⟩
  · exact .inl ⟨h1, List.eq_nil_of_length_eq_zero h2, h3⟩
  · exact .inr ⟨g, cap, cur, h0, h1, h2, h3, by omega, h5, by simpa using h6⟩
theorem RowV.of_owns {B : Nat} (h : w.ownsRow B e k v n cs) : ∃ o, RowV w e k v n cs o ∧ (∀ g, o = some g → B ≤ g ∧ g < w.heap.size) ∧ (0 < n → ∃ g, o = some g) := by
  obtain ⟨hl, h⟩ := h
  rcases h with ⟨rfl, h0⟩ | ⟨g, cap, cur, rfl, hB, hg, h3, h4, h5, h6⟩
  · exact ⟨none, ⟨hl, .inl ⟨rfl, h0, rfl⟩⟩, fun g hg => by (cases hg), fun h => by omega⟩
  · exact ⟨some g, ⟨hl, .inr ⟨g, cap, cur, rfl, rfl, hg, h3, by omega, h4, h6⟩⟩, fun g' hg' => by (cases hg'; exact ⟨hB, (Array.getElem?_eq_some_iff.1 hg).1⟩), fun _ => ⟨g, rfl⟩⟩

/-- THE LAW OF APPEND onto such a row, out of whatever cells -/
theorem rowV_append {P : Program} (t ty : TypeId) (i : TypeInfo) (z : Value) {by1 : Nat} (ht : P.underlying t = some (.slice e)) (hi : P.info? e = some i) (hz : i.zero = some z) (hs : i.size = k) (hby : i.bytes = by1) (hzs : z.cells.size = k) (hk : 0 < k)
    (h : RowV w e k v n cs o) {a : Addr} {m c : Nat} {news : List Value} (hl : news.length = m * k) (hnews : ∀ j u, news[j]? = some u → w.cell? (a.add j) = some u) (h1 : ∀ u ∈ news, u.oneCell' = true) (hm : 0 < m) (hmax : n + m ≤ maxLen) (hb : (n + m) * by1 ≤ 140737488355328) :
    ∃ v' w' g', (Builtin.append_ #[t, t] ty #[v, .slice (some a) m c]).run P w = .ok v' w' ∧ RowV w' e k v' (n + m) (cs ++ news) (some g') ∧ (o = some g' ∨ w.heap.size ≤ g') ∧ Keep (fun k => o = some k) w w' := by
  obtain ⟨hlc, ⟨rfl, rfl, rfl⟩ | ⟨g, cap, cur, rfl, rfl, h2, h3, h4, h5, h6⟩⟩ := h
  · obtain rfl : cs = [] := List.eq_nil_of_length_eq_zero (by simpa using hlc)
    obtain ⟨v', w', r1, r2, r3, r4⟩ := run_append_own (P := P) w w.heap.size t ty e i z k by1 ht hi hz hs hby hzs hk (.slice none 0 0) 0 [] (World.ownsRow_nil w _ e k) a m c news hl hnews h1 hmax hb (Nat.le_refl _)
    obtain ⟨o', q1, q2, q3⟩ := RowV.of_owns r2
    obtain ⟨g', rfl⟩ := q3 (by omega)
    exact ⟨v', w', g', r1, q1, .inr (q2 g' rfl).1, Keep.of_grown r3 (fun g hg => by simp [Value.ownBlock] at hg)⟩
  · by_cases hroom : n + m ≤ cap
    · subst hs
      have hfit : (n + m) * i.size ≤ cap * i.size := Nat.mul_le_mul_right _ hroom
      rw [Nat.add_mul] at hfit
      have hlt : ∀ j, j < news.length → 0 + n * i.size + j < cur.size := by intro j hj; omega
      have hr := run_append_room_cells (P := P) w t ty e i ht hi g 0 n cap a m c news hl hnews h1 hroom
        (fun j hj => by rw [h2.cell, Array.getElem?_eq_getElem (hlt j hj)]; rfl) (fun j _ => h2.free _)
      refine ⟨_, _, g, hr, ⟨?_, .inr ⟨g, cap, (cur.toList.take (n * i.size) ++ news ++ cur.toList.drop (n * i.size + news.length)).toArray, rfl, rfl, ?_, hroom, ?_, h5, ?_⟩⟩, .inl rfl, Keep.setCells (X := fun k => some g = some k) (.inl rfl) _ _ (Keep.refl _ _)⟩
      · rw [List.length_append, hlc, hl, Nat.add_mul]
      · rw [show 0 + n * i.size = n * i.size from by omega]
        exact h2.setMid (n * i.size) news (by omega)
      · simp; omega
      · rw [List.toList_toArray, Nat.add_mul, ← hl, take_setCells _ _ _ (by simp; omega), h6]
    · obtain ⟨v', w', r1, r2, r3⟩ := run_append_arg_grows (P := P) w t ty e i z k by1 ht hi hz hs hby hzs hk ⟨g, 0, none⟩ n cap cs hlc
        (fun j u hu => by
          have hj : j < n * k := by have := (List.getElem?_eq_some_iff.1 hu).1; omega
          rw [Addr.add_lit, Nat.zero_add, h2.cell, ← hu, ← h6, List.getElem?_take, if_pos hj]; simp)
        a m c news hl hnews (by omega) hmax hb
      obtain ⟨o', q1, q2, q3⟩ := RowV.of_owns r2
      obtain ⟨g', rfl⟩ := q3 (by omega)
      exact ⟨v', w', g', r1, q1, .inr (q2 g' rfl).1, Keep.of_grown r3 (fun g hg => by cases hg)⟩
/-- ONE element of one cell, laid in a block of its own first, as 'append(xs, x)' does -/
theorem rowV_append1 {P : Program} (t ty : TypeId) (i : TypeInfo) (z : Value) {by1 : Nat} (ht : P.underlying t = some (.slice e)) (hi : P.info? e = some i) (hz : i.zero = some z) (hs : i.size = 1) (hby : i.bytes = by1) (hzs : z.cells.size = 1)
    (h : RowV w e 1 v n cs o) (u : Value) (hu : u.oneCell' = true) (hmax : n + 1 ≤ maxLen) (hb : (n + 1) * by1 ≤ 140737488355328) :
    ∃ g' cap' w', (Builtin.append_ #[t, t] ty #[v, .slice (some ⟨w.heap.size, 0, none⟩) 1 1]).run P (w.alloc (.cells #[u] e)) = .ok (.slice (some ⟨g', 0, none⟩) (n + 1) cap') w' ∧ RowV w' e 1 (.slice (some ⟨g', 0, none⟩) (n + 1) cap') (n + 1) (cs ++ [u]) (some g') ∧ (o = some g' ∨ w.heap.size ≤ g') ∧ Keep (fun k => o = some k) w w' := by
  have h' := h.keep (X := fun _ => False) ((Keep.refl _ w).alloc (.cells #[u] e)) (fun _ _ h => h)
  obtain ⟨v', w', g', r1, r2, r3, r4⟩ := rowV_append (P := P) t ty i z ht hi hz hs hby hzs (by decide) h' (a := ⟨w.heap.size, 0, none⟩) (m := 1) (c := 1) (news := [u]) rfl (fun j x hx => by
    match j, hx with
    | 0, hx => cases hx; rw [Addr.add_lit, (Blk.new w #[u] e).cell]; rfl
    | j + 1, hx => simp at hx) (by simpa using hu) (by decide) hmax hb
  obtain ⟨p, cap', rfl, _, _, ⟨_, h0, _, _⟩ | ⟨g2, h2, rfl, _⟩⟩ := r2.form
  · omega
  · cases h2
    exact ⟨g', cap', w', r1, r2, r3.imp id (fun h => by simp at h; omega), ((Keep.refl _ w).alloc _).trans r4⟩
end
end Go.Proofs.YtgedpgdefafofaaDoor
end

section
/- Rows of elements of one cell: a row with room; slices in a slice. No program in sight. -/
namespace Go.Proofs.YtgedpgdefafofaaDoor
open Go Go.RowKit

/-- 'append(nil[:0], make(n)..)': a row of noughts, cut to nothing, has room -/
theorem run_append_room_nil {P : Program} (w : World) (t tn ty e : TypeId) (i : TypeInfo) (z : Value) (ht : P.underlying t = some (.slice e)) (htn : P.underlying tn = some (.int .i64)) (hi : P.info? e = some i) (hz : i.zero = some z) (hs : i.size = 1) (hzs : z.cells.size = 1) (n : Nat) (h0 : 0 < n) (hb : n * i.bytes ≤ 140737488355328) (hn : n ≤ 4611686018427387904) :
    ∃ g cap w', (Builtin.append_ #[t, tn] ty #[.slice none 0 0, .int .i64 (n : Int)]).run P w = .ok (.slice (some ⟨g, 0, none⟩) n cap) w' ∧ RowV w' e 1 (.slice (some ⟨g, 0, none⟩) 0 cap) 0 [] (some g) ∧ n ≤ cap ∧ cap ≤ maxLen ∧ w.heap.size ≤ g ∧ Below w.heap.size w w' := by
  have hr := Lib.run_append_grow_zeros w t tn ty e i z .i64 .i64 ht htn hi hz none 0 0 [] (run_firstCells_none w.drew i.size 0 0 0) n h0 (by omega) (by omega) (by omega) (by omega) (growslice_fits (by omega) (by rw [Nat.zero_add]; exact hb))
  rw [Nat.zero_add] at hr
  refine ⟨_, _, _, hr, ⟨by simp, .inr ⟨w.heap.size, _, _, rfl, rfl, Blk.new w.drew _ e, Nat.zero_le _, ?_, ?_, by simp⟩⟩, grownCap_ge _ _ _ _, ?_, Nat.le_refl _, ((Below.refl w.heap.size w).drew).alloc (Nat.le_refl _) _⟩
  · have := grownCap_ge w n 0 e
    simp [Builtin.zeroCells, hzs]
    omega
  · exact grownCap_le_maxLen w n 0 e (by unfold maxLen; omega)
  · exact grownCap_le_maxLen w n 0 e (by unfold maxLen; omega)
def lenL (L : Nat → Nat) : Nat → Nat
  | 0 => 0
  | n + 1 => lenL L n + L n
def catL (cs : Nat → List Value) : Nat → List Value
  | 0 => []
  | n + 1 => catL cs n ++ cs n
theorem lenL_mono (L : Nat → Nat) {a b : Nat} (h : a ≤ b) : lenL L a ≤ lenL L b := by
  induction h with
  | refl => exact Nat.le_refl _
  | step _ ih => exact Nat.le_trans ih (Nat.le_add_right _ _)
/-- n slices in a slice, each of elements of one cell -/
def CatIn (w : World) (q : Option Addr) (n : Nat) (A : Nat → Option Addr) (L C : Nat → Nat) (cs : Nat → List Value) : Prop :=
  ∀ i, i < n → ∃ b o, q = some ⟨b, o, none⟩ ∧ w.cell? ⟨b, o + i, none⟩ = some (.slice (A i) (L i) (C i)) ∧ (cs i).length = L i ∧ (∀ u ∈ cs i, u.oneCell' = true) ∧ (0 < L i → ∃ pb po, A i = some ⟨pb, po, none⟩ ∧ ∀ j u, (cs i)[j]? = some u → w.cell? ⟨pb, po + j, none⟩ = some u)
theorem CatIn.below {w w' : World} {q : Option Addr} {n : Nat} {A : Nat → Option Addr} {L C : Nat → Nat} {cs : Nat → List Value} (h : CatIn w q n A L C cs) (hb : Below w.heap.size w w') : CatIn w' q n A L C cs := fun i hi => by
  obtain ⟨b, o, h1, h2, h3, h4, h5⟩ := h i hi
  refine ⟨b, o, h1, (hb.cell (p := ⟨b, o + i, none⟩) (cell_lt h2)).trans h2, h3, h4, fun h0 => ?_⟩
  obtain ⟨pb, po, e1, e2⟩ := h5 h0
  exact ⟨pb, po, e1, fun j u hu => (hb.cell (p := ⟨pb, po + j, none⟩) (cell_lt (e2 j u hu))).trans (e2 j u hu)⟩
/-- append onto a row, also of nothing -/
theorem rowV_appendN {P : Program} {w : World} {e : TypeId} {v : Value} {n : Nat} {cs : List Value} {o : Option Nat} (t ty : TypeId) (i : TypeInfo) (z : Value) {by1 : Nat} (ht : P.underlying t = some (.slice e)) (hi : P.info? e = some i) (hz : i.zero = some z) (hs : i.size = 1) (hby : i.bytes = by1) (hzs : z.cells.size = 1)
    (h : RowV w e 1 v n cs o) {p : Option Addr} {m c : Nat} {news : List Value} (hl : news.length = m) (h1 : ∀ u ∈ news, u.oneCell' = true) (hp : 0 < m → ∃ pb po, p = some ⟨pb, po, none⟩ ∧ ∀ j u, news[j]? = some u → w.cell? ⟨pb, po + j, none⟩ = some u) (hmax : n + m ≤ maxLen) (hb : (n + m) * by1 ≤ 140737488355328) :
    ∃ v' w' o', (Builtin.append_ #[t, t] ty #[v, .slice p m c]).run P w = .ok v' w' ∧ RowV w' e 1 v' (n + m) (cs ++ news) o' ∧ (o' = o ∨ ∃ g', o' = some g' ∧ w.heap.size ≤ g') ∧ Keep (fun k => o = some k) w w' := by
  by_cases h0 : 0 < m
  · obtain ⟨pb, po, rfl, hc⟩ := hp h0
    obtain ⟨v', w', g', r1, r2, r3, r4⟩ := rowV_append (P := P) t ty i z ht hi hz hs hby hzs (by decide) h (a := ⟨pb, po, none⟩) (m := m) (c := c) (news := news) (by omega) (fun j u hu => by rw [Addr.add_lit]; exact hc j u hu) h1 h0 hmax hb
    exact ⟨v', w', some g', r1, r2, r3.imp (fun h => h.symm) (fun h => ⟨g', rfl, h⟩), r4⟩
  · obtain rfl : m = 0 := by omega
    obtain rfl : news = [] := List.eq_nil_of_length_eq_zero hl
    obtain ⟨q, c2, rfl, hle, hc2, _⟩ := h.form
    refine ⟨_, w, o, ?_, by rw [List.append_nil]; exact h, .inl rfl, Keep.refl _ _⟩
    cases q <;> cases p <;> simp [Builtin.append_, run_underlying ht, sizeOf, typeInfo, hi, Builtin.lenOf, hle, Builtin.firstCells, loadCells, loadCellsFrom, storeCells]
theorem own_step {w0 w w' : World} {G : Nat} {o o' : Option Nat} (hG : w0.heap.size = G) (hb : Below G w0 w) (ho : ∀ g, o = some g → G ≤ g) (h : o' = o ∨ ∃ g', o' = some g' ∧ w.heap.size ≤ g') (hk : Keep (fun k => o = some k) w w') : (∀ g, o' = some g → G ≤ g) ∧ Below G w0 w' := by
  subst hG
  refine ⟨fun g hg => ?_, hb.trans (hk.below hb.size (fun k hk => ho k hk))⟩
  rcases h with h | ⟨g', h1, h2⟩
  · exact ho g (h ▸ hg)
  · rw [h1] at hg; cases hg; have := hb.size; omega
end Go.Proofs.YtgedpgdefafofaaDoor
end

section
/- A region that draws its order, with a condition S on the world that holds till ALL have come up: so its last operation may write what the others read. The steps are OrdersHeld's, S being asked no more at the end. -/
namespace Go.Proofs.YtgedpgdefafofaaDoor
open Go

section
variable {P : Program} {ops : Array Oper} {Q : Exit → Act → World → Prop} {md : Region.Mode} {S : World → Prop}

/-- whatever order is picked from here on, and S holds behind every operation but number z -/
def wpAnyL (P : Program) (md : Region.Mode) (ops : Array Oper) (Q : Exit → Act → World → Prop) (S : World → Prop) (z : Nat) : Nat → Array Bool → Act → World → Prop
  | 0, listed, a, w => Region.ready md ops listed = [] ∧ Q .normal a w
  | fuel + 1, listed, a, w =>
    (Region.ready md ops listed = [] → Q .normal a w) ∧
    ∀ i ∈ Region.ready md ops listed, wpOp P ops Q i (fun a' w' => (i = z ∨ S w') ∧ wpAnyL P md ops Q S z fuel (listed.setIfInBounds i true) a' w') a w

variable {z : Nat}

theorem wpAny_of_L : ∀ (fuel : Nat) (listed : Array Bool) (a : Act) (w : World), wpAnyL P md ops Q S z fuel listed a w → wpAny P md ops Q fuel listed a w
  | 0, _, _, _, h => h
  | fuel + 1, _, _, _, h => ⟨h.1, fun i hi => wpOp_mono (fun a' w' h' => wpAny_of_L fuel _ a' w' h'.2) (h.2 i hi)⟩

/-- does operation z wait for operation i? -/
def waits (md : Region.Mode) (ops : Array Oper) (z i : Nat) : Bool := ((ops[z]?).map fun o => o.after.any fun e => Region.binds md e && e.on == i).getD false
theorem waits_spec {i : Nat} {o : Oper} (ho : ops[z]? = some o) (h : waits md ops z i = true) : ∃ e ∈ o.after, Region.binds md e = true ∧ e.on = i := by
  unfold waits at h
  rw [ho] at h
  simp only [Option.map_some, Option.getD_some, Array.any_eq_true] at h
  obtain ⟨k, hk, h⟩ := h
  rw [Bool.and_eq_true, beq_iff_eq] at h
  exact ⟨o.after[k], Array.getElem_mem hk, h.1, h.2⟩

theorem wpAnyL_first {i : Nat} {oi : Oper} {v : Value} (hi : ops[i]? = some oi) (hsel : ∀ (j : Nat) (o : Oper) cs b, ops[j]? = some o → o.op ≠ .select cs b)
    (hQ : ∀ c a w, Q (.panic c) (a.put oi.dst v) w → Q (.panic c) a w) (hz : waits md ops z i = true) :
    ∀ (fuel : Nat) (listed : Array Bool) (a : Act) (w : World),
      (∀ j oj, ops[j]? = some oj → j ≠ i → listed.getD j true = false → (∀ e ∈ oj.after, Region.binds md e = true → e.on ≠ i) → oi.apart ops oj = true) →
      i ∈ Region.ready md ops listed → YieldsIf P ops S oi v a → S w →
      wpAnyL P md ops Q S z fuel (listed.setIfInBounds i true) (a.put oi.dst v) w → wpAnyL P md ops Q S z (fuel + 1) listed a w := by
  intro fuel
  induction fuel with
  | zero =>
    intro listed a w _ hr hy hS H
    refine ⟨fun h => (by rw [h] at hr; cases hr), fun j hj => ?_⟩
    by_cases hji : j = i
    · subst hji; exact hy.wpOp hi hS ⟨.inr hS, H⟩
    · have := ready_mono hj hji
      rw [H.1] at this
      cases this
  | succ fuel ih =>
    intro listed a w hfree hr hy hS H
    refine ⟨fun h => (by rw [h] at hr; cases hr), fun j hj => ?_⟩
    by_cases hji : j = i
    · subst hji; exact hy.wpOp hi hS ⟨.inr hS, H⟩
    · have h1 := H.2 j (ready_mono hj hji)
      obtain ⟨hjun, oj, hoj, hall⟩ := mem_ready.1 hj
      have hiun := (mem_ready.1 hr).1
      have hnot : ∀ e ∈ oj.after, Region.binds md e = true → e.on ≠ i := fun e he hb heq => by
        have h1 := hall e he hb
        rw [heq] at h1
        rcases Nat.lt_or_ge i listed.size with h' | h'
        · simp [h'] at hiun h1; rw [hiun] at h1; cases h1
        · simp [Array.getElem?_eq_none h'] at h1
      have h2 := wpOp_putIf hoj (hfree j oj hoj hji hjun hnot) (fun cs b => hsel i oi cs b hi) (fun cs b => hsel j oj cs b hoj) hQ hy h1
      have hfree' : ∀ k ok, ops[k]? = some ok → k ≠ i → (listed.setIfInBounds j true).getD k true = false →
          (∀ e ∈ ok.after, Region.binds md e = true → e.on ≠ i) → oi.apart ops ok = true := fun k ok hk hki hun hno => by
        refine hfree k ok hk hki ?_ hno
        by_cases hjk : j = k
        · subst hjk; exact hjun
        · rw [getD_set_ne true hjk] at hun; exact hun
      refine wpOp_mono (fun a' w' h3 => ?_) h2
      have hSw : S w' := by
        rcases h3.2.1 with rfl | hSw
        · obtain ⟨e, he, hb, heq⟩ := waits_spec hoj hz
          exact absurd heq (hnot e he hb)
        · exact hSw
      refine ⟨.inr hSw, ih (listed.setIfInBounds j true) a' w' hfree' (ready_mono hr (Ne.symm hji)) h3.1 hSw ?_⟩
      rw [Array.setIfInBounds_comm _ _ hji]
      exact h3.2.2

/-- number i is taken first -/
theorem wpAnyL_take {i : Nat} {oi : Oper} {v : Value} {fuel : Nat} {listed : Array Bool} {a : Act} {w : World} (hi : ops[i]? = some oi)
    (hs : Region.noSelect ops = true) (hf : Region.free md ops listed i = true) (hr : (Region.ready md ops listed).contains i = true) (hz : waits md ops z i = true)
    (hQ : ∀ c a w, Q (.panic c) (a.put oi.dst v) w → Q (.panic c) a w) (hy : YieldsIf P ops S oi v a) (hS : S w)
    (h : wpAnyL P md ops Q S z fuel (listed.setIfInBounds i true) (a.put oi.dst v) w) : wpAnyL P md ops Q S z (fuel + 1) listed a w :=
  wpAnyL_first hi (Region.noSelect_spec hs) hQ hz fuel listed a w (Region.free_spec hi hf) (by simpa using hr) hy hS h
/-- one alone may come up -/
theorem wpAnyL_one {i : Nat} {oi : Oper} {fuel : Nat} {listed : Array Bool} {a : Act} {w : World} (hi : ops[i]? = some oi) (hr : Region.ready md ops listed = [i])
    (h : ∀ K' : Act → World → Prop, Shut (∀ a' w', (i = z ∨ S w') → wpAnyL P md ops Q S z fuel (listed.setIfInBounds i true) a' w' → K' a' w') →
      if Region.wanted oi (yielded ops a.tmps) = true then oi.wp P a w K' Q else K' (a.put oi.dst undef) w) : wpAnyL P md ops Q S z (fuel + 1) listed a w :=
  ⟨fun h0 => (by rw [hr] at h0; cases h0), fun j hj => by
    rw [hr] at hj
    obtain rfl : j = i := by simpa using hj
    exact wpOp_step hi fun K' hK => h K' fun a' w' hS hW => hK a' w' ⟨hS, hW⟩⟩
theorem wpAnyL_done {listed : Array Bool} {a : Act} {w : World} (hr : Region.ready md ops listed = []) (h : Q .normal a w) : ∀ fuel, wpAnyL P md ops Q S z fuel listed a w
  | 0 => ⟨hr, h⟩
  | _ + 1 => ⟨fun _ => h, by rw [hr]; simp⟩
/-- the beginning: z is the number of the operation behind which S is asked no more -/
theorem wp_region_last {id : Nat} {a : Act} {w : World} (z : Nat) (S : World → Prop) (hm : P.follows .mixedOrders = true) (hS : S w.drew)
    (h : S w.drew → wpAnyL P .any ops Q S z ops.size (Array.replicate ops.size false) a w.drew) : (Code.region id ops true).wp P Q a w :=
  wp_region_any hm (wpAny_of_L _ _ _ _ (h hS))
end
open Go.RowKit
/-- what a region that draws its order holds of the world v in which it began: old cells are as they were, and may be written as before -/
theorem SF.start (v : World) : Below v.heap.size v v.drew ∧ (∀ b o, b < v.heap.size → v.drew.cell? ⟨b, o, none⟩ = v.cell? ⟨b, o, none⟩) ∧ (∀ b o, b < v.heap.size → v.drew.frozen? ⟨b, o, none⟩ = v.frozen? ⟨b, o, none⟩) :=
  ⟨(Below.refl _ _).drew, fun _ _ _ => rfl, fun _ _ _ => rfl⟩
theorem SF.of {v w : World} (hb : Below v.heap.size v w) : Below v.heap.size v w ∧ (∀ b o, b < v.heap.size → w.cell? ⟨b, o, none⟩ = v.cell? ⟨b, o, none⟩) ∧ (∀ b o, b < v.heap.size → w.frozen? ⟨b, o, none⟩ = v.frozen? ⟨b, o, none⟩) :=
  ⟨hb, fun _ _ h => hb.cell (p := ⟨_, _, none⟩) h, fun _ _ h => hb.frozen (p := ⟨_, _, none⟩) h⟩
theorem SF.keep {v w w' : World} (h : Below v.heap.size v w ∧ (∀ b o, b < v.heap.size → w.cell? ⟨b, o, none⟩ = v.cell? ⟨b, o, none⟩) ∧ (∀ b o, b < v.heap.size → w.frozen? ⟨b, o, none⟩ = v.frozen? ⟨b, o, none⟩)) (hb : Below w.heap.size w w') :
    Below v.heap.size v w' ∧ (∀ b o, b < v.heap.size → w'.cell? ⟨b, o, none⟩ = v.cell? ⟨b, o, none⟩) ∧ (∀ b o, b < v.heap.size → w'.frozen? ⟨b, o, none⟩ = v.frozen? ⟨b, o, none⟩) :=
  SF.of (h.1.trans (hb.mono h.1.size))
end Go.Proofs.YtgedpgdefafofaaDoor
end

section
/- The library's: slices.Grow of nil, slices.Concat, at [][]byte. -/
namespace Go.Proofs.YtgedpgdefafofaaDoor
open Go Go.RowKit
set_option linter.unusedSimpArgs false
set_option linter.unusedVariables false
set_option maxRecDepth 100000

set_option maxHeartbeats 1600000 in
theorem grow_R (i0 : TypeInfo) (hi : Tryd.prog.info? 30 = some i0) (hz0 : i0.zero = some (.slice none 0 0)) (hz1 : i0.size = 1) (hz2 : i0.bytes = 24) (n : Nat) (hn : n * 24 ≤ 140737488355328) (w : World) :
    Calls Tryd.prog 75 #[.slice none 0 0, .int .i64 (n : Int)] w fun e w' => ∃ v o, e = .returned v ∧ RowV w' 30 1 v 0 [] o ∧ (∀ g, o = some g → w.heap.size ≤ g) ∧ Below w.heap.size w w' := by
  by_cases h0 : 0 < n
  · obtain ⟨g, cap, w1, run1, R, hcap, hcm, hg, hb⟩ := run_append_room_nil (P := Tryd.prog) w 34 3 34 30 i0 (.slice none 0 0) Tryd.underlying34 Tryd.underlying3 hi hz0 hz1 rfl n h0 (by rw [hz2]; exact hn) (by omega)
    have H := Lib.hid (And.intro R (And.intro hg hb))
    unfold maxLen at hcm
    have h1 : ¬ ((n : Int) < 0) := by omega
    have h2 : (0 : Int) < (n : Int) := by omega
    have h3 : (n : Int) ≤ 140737488355328 := by omega
    clear R hg hb h0 hn
    go_enter Tryd.func75, Tryd.ntmps75
    go_wp2_with (at_builtin; refine Lib.wpList_append_run _ rfl _ _ _ _ rfl _ _ rfl rfl _ _ run1 ?_)
    go_ret
    exact ⟨_, rfl, some g, H.out.1, fun g' e => (by cases e; exact H.out.2.1), H.out.2.2⟩
  · obtain rfl : n = 0 := by omega
    go_enter Tryd.func75, Tryd.ntmps75
    go_wp2
    go_ret
    exact ⟨_, none, rfl, RowV.nil _ _ _, fun g' e => (by cases e), Below.refl _ _⟩
theorem info_R : (Tryd.prog.info? 30).map (fun i => (i.zero, i.size, i.bytes)) = some (some (.slice none 0 0), 1, 24) := by kernel_rfl
set_option maxHeartbeats 3200000 in
theorem concat_R (q : Option Addr) (n c : Nat) (A : Nat → Option Addr) (L C : Nat → Nat) (cs : Nat → List Value) (w : World) (h : CatIn w q n A L C cs) (hn : n ≤ 1000000) (hl : lenL L n * 24 ≤ 140737488355328) :
    Calls Tryd.prog 51 #[.slice q n c] w fun e w' => ∃ v o, e = .returned v ∧ RowV w' 30 1 v (lenL L n) (catL cs n) o ∧ (∀ g, o = some g → w.heap.size ≤ g) ∧ Below w.heap.size w w' := by
  obtain ⟨i0, hi, hz0, hz1, hz2⟩ := info_parts info_R
  have HI := Lib.hid (And.intro hi (And.intro hz0 (And.intro hz1 hz2)))
  have PG := Lib.hid (grow_R i0 hi hz0 hz1 hz2 (lenL L n) hl w)
  have HC := Lib.hid h
  have HLL := Lib.hid hl
  have hl63 : lenL L n ≤ 140737488355328 := by omega
  clear h hi hz0 hz1 hz2 hl
  go_enter Tryd.func51, Tryd.ntmps51
  go_wp2
  go_loopg [3, 11] n (fun gh s i wx => ∃ k t : Nat, k ≤ n ∧ t ≤ 140737488355328 ∧ s = .int .i64 (t : Int) ∧ i = .int .i64 (k : Int) ∧ gh = n - k ∧ Hid (t = lenL L k) ∧ wx = w)
  case atStart => exact ⟨0, 0, Nat.zero_le _, Nat.zero_le _, rfl, rfl, rfl, rfl, rfl⟩
  case round =>
    obtain ⟨k, t, hk, ht, rfl, rfl, hg, HT, hwx⟩ := hrel
    obtain rfl : w = wr := hwx.symm
    have HGK := Lib.hid hg
    clear hg
    by_cases hlt : k < n
    · obtain ⟨b, o, rfl, hc, hlen, _, _⟩ := HC.out k hlt
      have hsum : t + L k ≤ 140737488355328 := by
        have h1 : lenL L (k + 1) ≤ lenL L n := lenL_mono L hlt
        have h2 : lenL L (k + 1) = lenL L k + L k := rfl
        have h3 := HT.out
        omega
      have HS := Lib.hid hsum
      have hLk : L k ≤ 140737488355328 := by omega
      have hnn : ¬ ((t : Int) + (L k : Int) < 0) := by omega
      have hww : IntKind.i64.wrap ((t : Int) + (L k : Int)) = (t : Int) + (L k : Int) := by rw [IntKind.wrap_i64]; omega
      clear hsum hlen
      go_wp2
      go_roundg (n - (k + 1))
      case measure => rw [HGK.out]; omega
      case rel => exact ⟨k + 1, t + L k, hlt, HS.out, congrArg (Value.int .i64) (by omega), rfl, rfl, by show t + L k = lenL L k + L k; rw [HT.out], rfl⟩
    · obtain rfl : k = n := by omega
      have ht2 := HT.out
      subst ht2
      go_wp2_with fail
      refine PG.out.mono ?_
      rintro e w1 ⟨v, o, rfl, R, ho, hb⟩
      have HR := Lib.hid (And.intro R (And.intro ho hb))
      clear R ho hb
      go_wp2
      generalize hgw : w.heap.size = G at *
      go_loopg [6, 27] k (fun gh s i wx => ∃ (j : Nat) (v : Value) (o : Option Nat), j ≤ k ∧ s = v ∧ i = .int .i64 (j : Int) ∧ gh = k - j ∧ Hid (RowV wx 30 1 v (lenL L j) (catL cs j) o ∧ (∀ g, o = some g → G ≤ g) ∧ Below G w wx))
      case atStart => exact ⟨0, v, o, Nat.zero_le _, rfl, rfl, rfl, HR.out⟩
      case round =>
        obtain ⟨j, v, o, hj, rfl, rfl, hg, HJ⟩ := hrel
        have HGJ := Lib.hid hg
        clear hg
        by_cases hlt : j < k
        · have hlen : lenL L (j + 1) ≤ lenL L k := lenL_mono L hlt
          obtain ⟨b, o2, rfl, hc, hln, h1, hp⟩ := (HC.out.below (by rw [hgw]; exact HJ.out.2.2)) j hlt
          obtain ⟨v2, w2, o3, run2, R2, ho2, hk2⟩ := rowV_appendN (P := Tryd.prog) 34 34 i0 (.slice none 0 0) Tryd.underlying34 HI.out.1 HI.out.2.1 HI.out.2.2.1 HI.out.2.2.2 rfl HJ.out.1 (c := C j) hln h1 hp (by
              have h2 : lenL L (j + 1) = lenL L j + L j := rfl
              unfold maxLen; omega) (by
              have h2 : lenL L (j + 1) = lenL L j + L j := rfl
              rw [← h2]; exact Nat.le_trans (Nat.mul_le_mul_right _ hlen) HLL.out)
          have HN := Lib.hid (And.intro R2 (own_step hgw HJ.out.2.2 HJ.out.2.1 ho2 hk2))
          obtain ⟨q1, c1, rfl, _⟩ := HJ.out.1.form
          clear hlen hln h1 hp R2 ho2 hk2
          go_wp2_with (at_builtin; refine wpl_append rfl _ _ 34 rfl rfl rfl run2 ?_)
          go_roundg (k - (j + 1))
          case measure => rw [HGJ.out]; omega
          case rel => exact ⟨j + 1, v2, o3, hlt, rfl, rfl, rfl, HN.out.1, HN.out.2.1, HN.out.2.2⟩
        · obtain rfl : j = k := by omega
          subst hgw
          go_wp2
          go_ret
          exact ⟨_, o, rfl, HJ.out.1, HJ.out.2.1, HJ.out.2.2⟩
end Go.Proofs.YtgedpgdefafofaaDoor
end
