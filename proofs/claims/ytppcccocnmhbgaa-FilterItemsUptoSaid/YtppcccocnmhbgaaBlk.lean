/- A block that came in: its header, transactions, inputs, outputs. -/
import Derived.Test.YtppcccocnmhbgaaOk
import Derived.Test.YtppcccocnmhbgaaOpenRows
import Derived.Test.YtppcccocnmhbgaaHashE
namespace Go.Proofs.Ytppcccocnmhbgaa
open Go Go.ChangeShapes Go.WideShapes Go.ChangeAt Go.RowKit
set_option linter.unusedVariables false
set_option maxRecDepth 100000

/-- n elements of k cells each in a slice that came in: what each has -/
def ElemsIn {α : Type} (w : World) (a : Option Addr) (n k : Nat) (cs : α → List Value) (ok : World → α → Prop) (X : Nat → α) : Prop :=
  ∀ i, i < n → ∃ b o, a = some ⟨b, o, none⟩ ∧ (cs (X i)).length = k ∧ CellsAt w b (o + i * k) (cs (X i)) ∧ ok w (X i)
theorem ElemsIn.below {α : Type} {w w' : World} {a : Option Addr} {n k : Nat} {cs : α → List Value} {ok : World → α → Prop} {X : Nat → α} (h : ElemsIn w a n k cs ok X) (hb : Below w.heap.size w w') (hok : ∀ x, ok w x → ok w' x) : ElemsIn w' a n k cs ok X := fun i hi => by
  obtain ⟨b, o, h1, h2, h3, h4⟩ := h i hi
  exact ⟨b, o, h1, h2, h3.below hb, hok _ h4⟩
theorem ElemsIn.row {α : Type} {w : World} {a : Option Addr} {n k : Nat} {cs : α → List Value} {ok : World → α → Prop} {X : Nat → α} (h : ElemsIn w a n k cs ok X) {i : Nat} (hi : i < n) : ok w (X i) := by
  obtain ⟨_, _, _, _, _, h⟩ := h i hi
  exact h
/-- a slice's head and its elements -/
structure SlD (α : Type) where
  a : Option Addr
  n : Nat
  c : Nat
  x : Nat → α
def SlD.cell {α : Type} (s : SlD α) : Value := .slice s.a s.n s.c
def SlOk {α : Type} (M k : Nat) (cs : α → List Value) (ok : World → α → Prop) (w : World) (s : SlD α) : Prop :=
  s.n ≤ s.c ∧ (s.n ≤ M ∧ s.c ≤ 9223372036854775807) ∧ (s.a = none → s.c = 0) ∧ ElemsIn w s.a s.n k cs ok s.x
theorem SlOk.below {α : Type} {M k : Nat} {cs : α → List Value} {ok : World → α → Prop} {w w' : World} {s : SlD α} (h : SlOk M k cs ok w s) (hb : Below w.heap.size w w') (hok : ∀ x, ok w x → ok w' x) : SlOk M k cs ok w' s :=
  ⟨h.1, h.2.1, h.2.2.1, h.2.2.2.below hb hok⟩
/-- a slice, out of what came in -/
theorem Ok.sl {α : Type} {P : Program} {w : World} {M f : Nat} {t e : TypeId} {c : List Value} {k : Nat} {cs : α → List Value} {ok : World → α → Prop} (hM : M ≤ 1048576) (ht : P.underlying t = some (.slice e)) (hk : P.cellsOf e = k) (h : Ok P w M (f + 1) t c) (x0 : α)
    (he : ∀ c', Ok P w M f e c' → ∃ x, c' = cs x ∧ ok w x) : ∃ s : SlD α, c = [s.cell] ∧ SlOk M k cs ok w s := by
  obtain ⟨a, len, cap, rfl, h1, h2, h3, h4⟩ := h.slice ht
  have each : ∀ i, i < len → ∃ x : α, ∃ b o, a = some ⟨b, o, none⟩ ∧ (cs x).length = k ∧ CellsAt w b (o + i * k) (cs x) ∧ ok w x := fun i hi => by
    obtain ⟨b, o, cs', e1, e2, e3, e4⟩ := h4 i hi
    obtain ⟨x, rfl, hx⟩ := he cs' e4
    rw [hk] at e2 e3
    exact ⟨x, b, o, e1, e2, e3, hx⟩
  rcases Nat.eq_zero_or_pos len with h0 | h0
  · exact ⟨⟨a, len, cap, fun _ => x0⟩, rfl, h1, ⟨Nat.le_trans h1 h2, Nat.le_trans h2 (by omega)⟩, h3, fun i hi => by have hi' : i < len := hi; omega⟩
  · have : Nonempty α := ⟨x0⟩
    have each' : ∀ i, ∃ x : α, i < len → ∃ b o, a = some ⟨b, o, none⟩ ∧ (cs x).length = k ∧ CellsAt w b (o + i * k) (cs x) ∧ ok w x := fun i => by
      rcases Nat.lt_or_ge i len with hi | hi
      · obtain ⟨x, hx⟩ := each i hi
        exact ⟨x, fun _ => hx⟩
      · exact ⟨x0, fun h => absurd h (by omega)⟩
    exact ⟨⟨a, len, cap, fun i => Classical.choose (each' i)⟩, rfl, h1, ⟨Nat.le_trans h1 h2, Nat.le_trans h2 (by omega)⟩, h3, fun i hi => Classical.choose_spec (each' i) hi⟩
/-- bytes: a row -/
structure RwD where
  a : Option Addr
  c : Nat
  z : List Int
def RwD.cell (r : RwD) : Value := .slice r.a r.z.length r.c
def RwOk (M : Nat) (w : World) (r : RwD) : Prop := RowOf w r.cell r.a r.c r.z ∧ r.z.length ≤ M
theorem RwOk.below {M : Nat} {w w' : World} {r : RwD} (h : RwOk M w r) (hb : Below w.heap.size w w') : RwOk M w' r := ⟨h.1.below hb, h.2⟩
theorem Ok.row {w : World} {M f : Nat} {c : List Value} (hM : M ≤ 1048576) (h : Ok Try.prog w M (f + 2) 26 c) : ∃ r : RwD, c = [r.cell] ∧ RwOk M w r := by
  obtain ⟨a, len, cap, rfl, h1, h2, h3, h4⟩ := h.slice Try.underlying26
  have hk : Try.prog.cellsOf 5 = 1 := by kernel_rfl
  have each : ∀ i, ∃ z : Int, i < len → ∃ b o, a = some ⟨b, o, none⟩ ∧ w.cell? ⟨b, o + i, none⟩ = some (.int .u8 z) ∧ 0 ≤ z ∧ z ≤ 255 := fun i => by
    rcases Nat.lt_or_ge i len with hi | hi
    · obtain ⟨b, o, cs', e1, e2, e3, e4⟩ := h4 i hi
      obtain ⟨z, rfl, hz⟩ := e4.int Try.underlying5
      rw [hk, Nat.mul_one] at e3
      exact ⟨z, fun _ => ⟨b, o, e1, by have := e3 0 (by simp); simpa using this, bounds_u8 hz⟩⟩
    · exact ⟨0, fun h => absurd h (by omega)⟩
  have hZ : ∃ Z : Nat → Int, ∀ i, i < len → ∃ b o, a = some ⟨b, o, none⟩ ∧ w.cell? ⟨b, o + i, none⟩ = some (.int .u8 (Z i)) ∧ 0 ≤ Z i ∧ Z i ≤ 255 := ⟨fun i => Classical.choose (each i), fun i hi => Classical.choose_spec (each i) hi⟩
  obtain ⟨Z, hZ⟩ := hZ
  have hl : ((List.range len).map Z).length = len := by simp
  refine ⟨⟨a, cap, (List.range len).map Z⟩, by unfold RwD.cell; rw [hl], ⟨rfl, ?_, by rw [hl]; omega, by rw [hl]; exact h1, by show cap ≤ _; omega, h3, fun y hy => ?_, fun q hq h0 => ?_⟩, by show ((List.range len).map Z).length ≤ M; rw [hl]; exact Nat.le_trans h1 h2⟩
  · rw [hl]
    refine fun h0 => ?_
    obtain ⟨b, o, e1, _⟩ := hZ 0 h0
    refine ⟨b, o, e1, fun i hi => ?_⟩
    obtain ⟨b', o', e2, e3, _⟩ := hZ i hi
    rw [e1] at e2
    cases e2
    rw [e3]
    simp [List.getD_eq_getElem?_getD, hi]
  · obtain ⟨i, hi, rfl⟩ := List.mem_map.1 hy
    obtain ⟨_, _, _, _, h1, h2⟩ := hZ i (List.mem_range.1 hi)
    exact ⟨h1, h2⟩
  · rw [hl] at h0
    obtain ⟨b, o, e1, e3, _⟩ := hZ 0 h0
    have hq' : a = some q := hq
    rw [e1] at hq'
    cases hq'
    exact cell_lt e3
theorem Ok.hash {w : World} {M f : Nat} {c : List Value} (h : Ok Try.prog w M (f + 2) 23 c) : ∃ n, n < W256 ∧ c = hls n := by
  obtain ⟨hl, h1⟩ := h.array (n := 32) (e := 5) Try.underlying23
  have hk : Try.prog.cellsOf 5 = 1 := by kernel_rfl
  have hk2 : Try.prog.cellsOf 23 = 32 := by kernel_rfl
  rw [hk2] at hl
  have each : ∀ i, ∃ z : Int, i < 32 → c[i]? = some (.int .u8 z) ∧ 0 ≤ z ∧ z ≤ 255 := fun i => by
    rcases Nat.lt_or_ge i 32 with hi | hi
    · have := h1 i hi
      rw [hk, Nat.mul_one] at this
      obtain ⟨z, e, hz⟩ := this.int Try.underlying5
      refine ⟨z, fun _ => ⟨?_, bounds_u8 hz⟩⟩
      have e2 := congrArg (fun l => l[0]?) e
      simpa [List.getElem?_take, List.getElem?_drop] using e2
    · exact ⟨0, fun h => absurd h (by omega)⟩
  have hZ : ∃ Z : Nat → Int, ∀ i, i < 32 → c[i]? = some (.int .u8 (Z i)) ∧ 0 ≤ Z i ∧ Z i ≤ 255 := ⟨fun i => Classical.choose (each i), fun i hi => Classical.choose_spec (each i) hi⟩
  obtain ⟨Z, hZ⟩ := hZ
  have b : ∀ i, i < 32 → 0 ≤ Z i ∧ Z i ≤ 255 := fun i hi => (hZ i hi).2
  refine ⟨hnum Z 32, hnum_lt Z 32 b, ?_⟩
  rw [← hls_of Z b]
  apply List.ext_getElem?
  intro i
  by_cases hi : i < 32
  · rw [(hZ i hi).1]; simp [hi]
  · rw [List.getElem?_eq_none (by omega), List.getElem?_eq_none (by simp; omega)]
/-- an output -/
structure OutD where
  val : Int
  script : RwD
def outCs (x : OutD) : List Value := [.int .i64 x.val, x.script.cell]
def OutOk (M : Nat) (w : World) (x : OutD) : Prop := RwOk M w x.script ∧ (Lit.int .i64 x.val).wf = true
/-- an input -/
structure InD where
  id : Nat
  index : Int
  script : RwD
  seq : Int
  wit : SlD RwD
def inCs (x : InD) : List Value := hls x.id ++ [.int .u32 x.index, x.script.cell, .int .u32 x.seq, x.wit.cell]
def InOk (M : Nat) (w : World) (x : InD) : Prop := x.id < W256 ∧ (Lit.int .u32 x.index).wf = true ∧ RwOk M w x.script ∧ (Lit.int .u32 x.seq).wf = true ∧ SlOk M 1 (fun r : RwD => [r.cell]) (RwOk M) w x.wit
/-- a transaction -/
structure TxD where
  ver : Int
  ins : SlD InD
  outs : SlD OutD
  lock : Int
def txCs (x : TxD) : List Value := [.int .u32 x.ver, x.ins.cell, x.outs.cell, .int .u32 x.lock]
def TxOk (M : Nat) (w : World) (x : TxD) : Prop := (Lit.int .u32 x.ver).wf = true ∧ SlOk M 36 inCs (InOk M) w x.ins ∧ SlOk M 2 outCs (OutOk M) w x.outs ∧ (Lit.int .u32 x.lock).wf = true
/-- a header -/
structure HdrD where
  ver : Int
  prev : Nat
  merkle : Nat
  time : Int
  bits : Int
  nonce : Int
def hdrCs (x : HdrD) : List Value := [.int .u32 x.ver] ++ hls x.prev ++ hls x.merkle ++ [.int .u32 x.time, .int .u32 x.bits, .int .u32 x.nonce]
def HdrOk (x : HdrD) : Prop := (Lit.int .u32 x.ver).wf = true ∧ x.prev < W256 ∧ x.merkle < W256 ∧ (Lit.int .u32 x.time).wf = true ∧ (Lit.int .u32 x.bits).wf = true ∧ (Lit.int .u32 x.nonce).wf = true
/-- a block -/
structure BlkD where
  hdr : HdrD
  txs : SlD TxD
def blkCs (x : BlkD) : List Value := hdrCs x.hdr ++ [x.txs.cell]
def BlkOk (M : Nat) (w : World) (x : BlkD) : Prop := HdrOk x.hdr ∧ SlOk M 4 txCs (TxOk M) w x.txs
section
variable {w w' : World} {M f : Nat}
theorem OutOk.below {x : OutD} (hb : Below w.heap.size w w') (h : OutOk M w x) : OutOk M w' x := ⟨h.1.below hb, h.2⟩
theorem InOk.below {x : InD} (hb : Below w.heap.size w w') (h : InOk M w x) : InOk M w' x := ⟨h.1, h.2.1, h.2.2.1.below hb, h.2.2.2.1, h.2.2.2.2.below hb (fun x hx => hx.below hb)⟩
theorem TxOk.below {x : TxD} (hb : Below w.heap.size w w') (h : TxOk M w x) : TxOk M w' x := ⟨h.1, h.2.1.below hb (fun x hx => InOk.below hb hx), h.2.2.1.below hb (fun x hx => OutOk.below hb hx), h.2.2.2⟩
theorem BlkOk.below {x : BlkD} (hb : Below w.heap.size w w') (h : BlkOk M w x) : BlkOk M w' x := ⟨h.1, h.2.below hb (fun x hx => TxOk.below hb hx)⟩
end
section
variable {w : World} {M f : Nat} {c : List Value}
theorem ok_out (hM : M ≤ 1048576) (h : Ok Try.prog w M (f + 3) 83 c) : ∃ x, c = outCs x ∧ OutOk M w x := by
  obtain ⟨hl, hf⟩ := h.struct Try.underlying83
  rw [show Try.prog.cellsOf 83 = 2 from by kernel_rfl] at hl
  obtain ⟨c0, c1, rfl⟩ : ∃ c0 c1, c = [c0, c1] := by
    match c, hl with
    | [c0, c1], _ => exact ⟨c0, c1, rfl⟩
  have k0 : Try.prog.cellsOf 2 = 1 := by kernel_rfl
  have k1 : Try.prog.cellsOf 26 = 1 := by kernel_rfl
  have g0 : Ok Try.prog w M (f + 2) 2 [c0] := by have := hf 0 _ rfl; simpa [k0] using this
  have g1 : Ok Try.prog w M (f + 2) 26 [c1] := by have := hf 1 _ rfl; simpa [k1] using this
  obtain ⟨z, e0, hz⟩ := g0.int Try.underlying2
  obtain ⟨r, e1, hr⟩ := g1.row hM
  cases e0; cases e1
  exact ⟨⟨z, r⟩, rfl, hr, hz⟩
theorem ok_wit (hM : M ≤ 1048576) (h : Ok Try.prog w M (f + 3) 24 c) : ∃ s : SlD RwD, c = [s.cell] ∧ SlOk M 1 (fun r : RwD => [r.cell]) (RwOk M) w s :=
  h.sl hM Try.underlying24 (by kernel_rfl) ⟨none, 0, []⟩ (fun c' hc => hc.row hM)
theorem ok_in (hM : M ≤ 1048576) (h : Ok Try.prog w M (f + 5) 113 c) : ∃ x, c = inCs x ∧ InOk M w x := by
  obtain ⟨hl, hf⟩ := h.struct Try.underlying113
  have k0 : Try.prog.cellsOf 111 = 33 := by kernel_rfl
  have k1 : Try.prog.cellsOf 26 = 1 := by kernel_rfl
  have k2 : Try.prog.cellsOf 36 = 1 := by kernel_rfl
  have k3 : Try.prog.cellsOf 24 = 1 := by kernel_rfl
  have k4 : Try.prog.cellsOf 23 = 32 := by kernel_rfl
  rw [show Try.prog.cellsOf 113 = 36 from by kernel_rfl] at hl
  have g0 : Ok Try.prog w M (f + 4) 111 (c.take 33) := by have := hf 0 _ rfl; simpa [k0] using this
  have g1 : Ok Try.prog w M (f + 4) 26 ((c.drop 33).take 1) := by have := hf 1 _ rfl; simpa [k1] using this
  have g2 : Ok Try.prog w M (f + 4) 36 ((c.drop 34).take 1) := by have := hf 2 _ rfl; simpa [k2] using this
  have g3 : Ok Try.prog w M (f + 4) 24 ((c.drop 35).take 1) := by have := hf 3 _ rfl; simpa [k3] using this
  obtain ⟨_, hp⟩ := g0.struct Try.underlying111
  have p0 : Ok Try.prog w M (f + 3) 23 (c.take 32) := by have := hp 0 _ rfl; simpa [k4, List.take_take] using this
  have p1 : Ok Try.prog w M (f + 3) 36 ((c.drop 32).take 1) := by
    have : Ok Try.prog w M (f + 3) 36 (((c.take 33).drop 32).take (Try.prog.cellsOf 36)) := hp 1 _ rfl
    rw [k2, List.drop_take, List.take_take] at this
    exact this
  obtain ⟨n, hn, e0⟩ := Ok.hash (f := f + 1) p0
  obtain ⟨ix, e1, hix⟩ := p1.int Try.underlying36
  obtain ⟨r, e2, hr⟩ := Ok.row (f := f + 2) hM g1
  obtain ⟨sq, e3, hsq⟩ := g2.int Try.underlying36
  obtain ⟨s, e4, hs⟩ := ok_wit (f := f + 1) hM g3
  refine ⟨⟨n, ix, r, sq, s⟩, ?_, hn, hix, hr, hsq, hs⟩
  have e : c = c.take 32 ++ ((c.drop 32).take 1 ++ ((c.drop 33).take 1 ++ ((c.drop 34).take 1 ++ (c.drop 35).take 1))) := by
    have s1 : (c.drop 35).take 1 = c.drop 35 := List.take_of_length_le (by rw [List.length_drop]; omega)
    have d1 : ∀ k, (c.drop k).take 1 ++ c.drop (k + 1) = c.drop k := fun k => by rw [← List.drop_drop]; exact List.take_append_drop 1 (c.drop k)
    rw [s1, d1 34, d1 33, d1 32, List.take_append_drop]
  rw [e, e0, e1, e2, e3, e4]
  rfl
theorem ok_tx (hM : M ≤ 1048576) (h : Ok Try.prog w M (f + 7) 80 c) : ∃ x, c = txCs x ∧ TxOk M w x := by
  obtain ⟨hl, hf⟩ := h.struct Try.underlying80
  rw [show Try.prog.cellsOf 80 = 4 from by kernel_rfl] at hl
  obtain ⟨c0, c1, c2, c3, rfl⟩ : ∃ c0 c1 c2 c3, c = [c0, c1, c2, c3] := by
    match c, hl with
    | [c0, c1, c2, c3], _ => exact ⟨c0, c1, c2, c3, rfl⟩
  have k0 : Try.prog.cellsOf 36 = 1 := by kernel_rfl
  have k1 : Try.prog.cellsOf 77 = 1 := by kernel_rfl
  have k2 : Try.prog.cellsOf 78 = 1 := by kernel_rfl
  have g0 : Ok Try.prog w M (f + 6) 36 [c0] := by have := hf 0 _ rfl; simpa [k0] using this
  have g1 : Ok Try.prog w M (f + 6) 77 [c1] := by have := hf 1 _ rfl; simpa [k1] using this
  have g2 : Ok Try.prog w M (f + 6) 78 [c2] := by have := hf 2 _ rfl; simpa [k2] using this
  have g3 : Ok Try.prog w M (f + 6) 36 [c3] := by have := hf 3 _ rfl; simpa [k0] using this
  obtain ⟨v, e0, hv⟩ := g0.int Try.underlying36
  obtain ⟨si, e1, hi⟩ := Ok.sl (f := f + 5) hM Try.underlying77 (by kernel_rfl) g1 (⟨0, 0, ⟨none, 0, []⟩, 0, ⟨none, 0, 0, fun _ => ⟨none, 0, []⟩⟩⟩ : InD) (fun c' hc => ok_in hM hc)
  obtain ⟨so, e2, ho⟩ := Ok.sl (f := f + 5) hM Try.underlying78 (by kernel_rfl) g2 (⟨0, ⟨none, 0, []⟩⟩ : OutD) (fun c' hc => ok_out (f := f + 2) hM hc)
  obtain ⟨lk, e3, hlk⟩ := g3.int Try.underlying36
  cases e0; cases e1; cases e2; cases e3
  exact ⟨⟨v, si, so, lk⟩, rfl, hv, hi, ho, hlk⟩
theorem ok_hdr (h : Ok Try.prog w M (f + 3) 38 c) : ∃ x, c = hdrCs x ∧ HdrOk x := by
  obtain ⟨hl, hf⟩ := h.struct Try.underlying38
  rw [show Try.prog.cellsOf 38 = 68 from by kernel_rfl] at hl
  have k0 : Try.prog.cellsOf 36 = 1 := by kernel_rfl
  have k4 : Try.prog.cellsOf 23 = 32 := by kernel_rfl
  have g0 : Ok Try.prog w M (f + 2) 36 (c.take 1) := by have := hf 0 _ rfl; simpa [k0] using this
  have g1 : Ok Try.prog w M (f + 2) 23 ((c.drop 1).take 32) := by have := hf 1 _ rfl; simpa [k4] using this
  have g2 : Ok Try.prog w M (f + 2) 23 ((c.drop 33).take 32) := by have := hf 2 _ rfl; simpa [k4] using this
  have g3 : Ok Try.prog w M (f + 2) 36 ((c.drop 65).take 1) := by have := hf 3 _ rfl; simpa [k0] using this
  have g4 : Ok Try.prog w M (f + 2) 36 ((c.drop 66).take 1) := by have := hf 4 _ rfl; simpa [k0] using this
  have g5 : Ok Try.prog w M (f + 2) 36 ((c.drop 67).take 1) := by have := hf 5 _ rfl; simpa [k0] using this
  obtain ⟨v, e0, hv⟩ := g0.int Try.underlying36
  obtain ⟨n, hn, e1⟩ := g1.hash
  obtain ⟨m, hm, e2⟩ := g2.hash
  obtain ⟨t, e3, ht⟩ := g3.int Try.underlying36
  obtain ⟨b, e4, hb⟩ := g4.int Try.underlying36
  obtain ⟨o, e5, ho⟩ := g5.int Try.underlying36
  refine ⟨⟨v, n, m, t, b, o⟩, ?_, hv, hn, hm, ht, hb, ho⟩
  have e : c = c.take 1 ++ ((c.drop 1).take 32 ++ ((c.drop 33).take 32 ++ ((c.drop 65).take 1 ++ ((c.drop 66).take 1 ++ (c.drop 67).take 1)))) := by
    have s1 : (c.drop 67).take 1 = c.drop 67 := List.take_of_length_le (by rw [List.length_drop]; omega)
    have d1 : ∀ k m, (c.drop k).take m ++ c.drop (k + m) = c.drop k := fun k m => by rw [← List.drop_drop]; exact List.take_append_drop m (c.drop k)
    rw [s1, d1 66 1, d1 65 1, d1 33 32, d1 1 32, List.take_append_drop]
  rw [e, e0, e1, e2, e3, e4, e5]
  simp [hdrCs]
theorem ok_blk (hM : M ≤ 1048576) (h : Ok Try.prog w M (f + 9) 41 c) : ∃ x, c = blkCs x ∧ BlkOk M w x := by
  obtain ⟨hl, hf⟩ := h.struct Try.underlying41
  rw [show Try.prog.cellsOf 41 = 69 from by kernel_rfl] at hl
  have k0 : Try.prog.cellsOf 38 = 68 := by kernel_rfl
  have k1 : Try.prog.cellsOf 39 = 1 := by kernel_rfl
  have g0 : Ok Try.prog w M (f + 8) 38 (c.take 68) := by have := hf 0 _ rfl; simpa [k0] using this
  have g1 : Ok Try.prog w M (f + 8) 39 ((c.drop 68).take 1) := by have := hf 1 _ rfl; simpa [k1] using this
  obtain ⟨h0, e0, hh⟩ := ok_hdr (f := f + 5) g0
  obtain ⟨st, e1, ht⟩ := Ok.sl (f := f + 7) hM Try.underlying39 (by kernel_rfl) g1 (⟨0, ⟨none, 0, 0, fun _ => ⟨0, 0, ⟨none, 0, []⟩, 0, ⟨none, 0, 0, fun _ => ⟨none, 0, []⟩⟩⟩⟩, ⟨none, 0, 0, fun _ => ⟨0, ⟨none, 0, []⟩⟩⟩, 0⟩ : TxD) (fun c' hc => ok_tx hM hc)
  refine ⟨⟨h0, st⟩, ?_, hh, ht⟩
  have e : c = c.take 68 ++ (c.drop 68).take 1 := by
    rw [show (c.drop 68).take 1 = c.drop 68 from List.take_of_length_le (by rw [List.length_drop]; omega), List.take_append_drop]
  rw [e, e0, e1]
  rfl
end
end Go.Proofs.Ytppcccocnmhbgaa
