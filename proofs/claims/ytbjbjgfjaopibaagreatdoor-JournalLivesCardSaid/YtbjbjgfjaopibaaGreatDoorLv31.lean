import Derived.Test.YtbjbjgfjaopibaaGreatDoorLv8
import Derived.Test.YtbjbjgfjaopibaaGreatDoorLv9
import Derived.Test.YtbjbjgfjaopibaaGreatDoorLv30
import Derived.Test.YtbjbjgfjaopibaaGreatDoorLv6
import Derived.Test.YtbjbjgfjaopibaaGreatDoorRows
import Derived.LaidMore
import Derived.OpenShut
import Derived.SevenTiedAt
import Derived.Stop.Joined
import Derived.Test.YtbjbjgfjaopibaaGreatDoorCards
import Derived.Test.YtbjbjgfjaopibaaGreatDoorTie
section
/- Data that came in: every slice's bytes are bounded too. What came in as calls of a journal. -/
namespace Go.Proofs.YtbjbjgfjaopibaaGreatDoor
open Go Go.ChangeShapes Go.WideShapes Go.ChangeAt Go.RowKit
set_option linter.unusedVariables false
set_option maxRecDepth 100000

/-- as Ok, and no slice of more than M bytes -/
def OkB (P : Program) (w : World) (M : Nat) : Nat → TypeId → List Value → Prop
  | 0, _, _ => False
  | f + 1, t, cs => match P.underlying t with
    | some (.int k) => ∃ z, cs = [.int k z] ∧ (Lit.int k z).wf = true
    | some .bool => ∃ b, cs = [.bool b]
    | some .string => ∃ s : ByteArray, cs = [.string s] ∧ s.size ≤ M
    | some (.slice e) => ∃ a len cap, cs = [.slice a len cap] ∧ len ≤ cap ∧ (cap ≤ M ∧ cap * P.bytesOf e ≤ M) ∧ (a = none → cap = 0) ∧ ∀ i, i < len → ∃ b o cs', a = some ⟨b, o, none⟩ ∧ cs'.length = P.cellsOf e ∧ CellsAt w b (o + i * P.cellsOf e) cs' ∧ OkB P w M f e cs'
    | some (.struct fs) => cs.length = P.cellsOf t ∧ ∀ (i : Nat) x, fs[i]? = some x → OkB P w M f x.type ((cs.drop x.offset).take (P.cellsOf x.type))
    | some (.array n e) => cs.length = P.cellsOf t ∧ ∀ i, i < n → OkB P w M f e ((cs.drop (i * P.cellsOf e)).take (P.cellsOf e))
    | _ => False
theorem OkB.ok {P : Program} {w : World} {M : Nat} : ∀ {f : Nat} {t : TypeId} {cs : List Value}, OkB P w M f t cs → Ok P w M f t cs
  | 0, _, _, h => h
  | f + 1, t, cs, h => by
    unfold OkB at h
    unfold Ok
    split at h <;> rename_i hu <;> (try rw [hu]) <;> (try simp only [])
    · exact h
    · exact h
    · exact h
    · obtain ⟨a, len, cap, h1, h2, h3, h4, h5⟩ := h
      exact ⟨a, len, cap, h1, h2, h3.1, h4, fun i hi => by
        obtain ⟨b, o, cs', e1, e2, e3, e4⟩ := h5 i hi
        exact ⟨b, o, cs', e1, e2, e3, OkB.ok e4⟩⟩
    · exact ⟨h.1, fun i x hx => OkB.ok (h.2 i x hx)⟩
    · exact ⟨h.1, fun i hi => OkB.ok (h.2 i hi)⟩
    · exact h.elim
section
variable {P : Program} {w : World} {M f : Nat} {t : TypeId} {cs : List Value}
theorem OkB.int {k : IntKind} (ht : P.underlying t = some (.int k)) (h : OkB P w M (f + 1) t cs) : ∃ z, cs = [.int k z] ∧ (Lit.int k z).wf = true := by
  unfold OkB at h; rw [ht] at h; exact h
theorem OkB.slice {e : TypeId} (ht : P.underlying t = some (.slice e)) (h : OkB P w M (f + 1) t cs) : ∃ a len cap, cs = [.slice a len cap] ∧ len ≤ cap ∧ (cap ≤ M ∧ cap * P.bytesOf e ≤ M) ∧ (a = none → cap = 0) ∧ ∀ i, i < len → ∃ b o cs', a = some ⟨b, o, none⟩ ∧ cs'.length = P.cellsOf e ∧ CellsAt w b (o + i * P.cellsOf e) cs' ∧ OkB P w M f e cs' := by
  unfold OkB at h; rw [ht] at h; exact h
theorem OkB.struct {fs : Array Field} (ht : P.underlying t = some (.struct fs)) (h : OkB P w M (f + 1) t cs) : cs.length = P.cellsOf t ∧ ∀ (i : Nat) x, fs[i]? = some x → OkB P w M f x.type ((cs.drop x.offset).take (P.cellsOf x.type)) := by
  unfold OkB at h; rw [ht] at h; exact h
end
/-- WHAT CAME IN, of a plain type: its weights bound every length -/
theorem okB_of_trodW {H : Type} {enc : TypeId × Value → H} {P : Program} {w : World} {M : Nat} : ∀ {f n : Nat} {t : TypeId} {cs : List Value} {x : DataW H × List MemPlace},
    plainTyW P f t = true → DataW.trod enc P w 0 (fun _ => true) true n t cs = some x → (∀ m ∈ x.1.weights P t, m ≤ M) → OkB P w M f t cs
  | 0, _, _, _, _, h, _, _ => by simp [plainTyW] at h
  | f + 1, n, t, cs, x, hp, h, hM => by
    unfold plainTyW at hp
    unfold OkB
    split at hp <;> rename_i hu <;> (try rw [hu]) <;> (try simp only [])
    · obtain ⟨z, h1, _, h2⟩ := DataW.trod_int hu h
      exact ⟨z, h1, h2⟩
    · obtain ⟨b, h1, _⟩ := DataW.trod_bool hu h
      exact ⟨b, h1⟩
    · obtain ⟨s, h1, rfl, _⟩ := DataW.trod_string hu h
      refine ⟨s, h1, ?_⟩
      have e : s.data.toList.length = s.size := by rw [Array.length_toList]; rfl
      have := hM s.data.toList.length (by simp [DataW.weights])
      omega
    · rename_i e
      rw [Bool.and_eq_true, Bool.and_eq_true] at hp
      obtain ⟨hp0, hp1, hp⟩ := hp
      have hp0 := of_decide_eq_true hp0
      have hp1 := of_decide_eq_true hp1
      rcases Go.Deep.open_slice hu h with ⟨rfl, _⟩ | ⟨a, len, cap, m, n', D, Pl, rfl, _, hl, hm, hmm, rfl, hi⟩
      · exact ⟨none, 0, 0, rfl, Nat.le_refl _, ⟨Nat.zero_le _, by simp⟩, fun _ => rfl, fun i hi => by omega⟩
      · simp only [if_true] at hmm
        subst hmm
        have h1 := hM ((((List.range len).map D).length + ((List.range (m - len)).map fun j => D (len + j)).length) * P.bytesOf e) (by simp [DataW.weights, hu])
        simp only [List.length_map, List.length_range] at h1
        have h2 : (len + (m - len)) * 1 ≤ (len + (m - len)) * P.bytesOf e := Nat.mul_le_mul_left _ hp1
        refine ⟨some a, len, m, rfl, hl, ⟨by omega, by rw [show len + (m - len) = m from by omega] at h1; exact h1⟩, fun h => (by cases h), fun i hlt => ?_⟩
        obtain ⟨cs', hc, ht'⟩ := hi i (by omega)
        obtain ⟨_, hcl, hat⟩ := World.cells?_some hc
        have hD : ∀ k ∈ (D i).weights P e, k ≤ M := fun k hk => hM k (by
          simp only [DataW.weights, hu, List.mem_cons, List.mem_append]
          exact .inr (.inl (weightsAll_at (List.mem_map.2 ⟨i, List.mem_range.2 hlt, rfl⟩) k hk)))
        have hOk := okB_of_trodW hp ht' hD
        obtain ⟨b, o, s⟩ := a
        obtain ⟨cs0, hc0, _⟩ := hi 0 (by omega)
        obtain ⟨_, hcl0, hat0⟩ := World.cells?_some hc0
        have hat0 := hat0 0 hp0
        rw [List.getElem?_eq_getElem (by omega)] at hat0
        obtain rfl : s = none := by simpa [Addr.add] using World.cell?_spot hat0
        refine ⟨b, o, cs', rfl, hcl, fun j hj => ?_, hOk⟩
        have := hat j (by omega)
        rw [Go.Deep.add_add, Addr.add_lit, ← Nat.add_assoc] at this
        exact this
    · obtain ⟨xs, n', _, rfl, hl, hlen, hf⟩ := DataW.trod_struct hu h
      refine ⟨hl, fun i fd hfd => ?_⟩
      have hi := (Array.getElem?_eq_some_iff.1 hfd).1
      have h1 := hf i fd hfd
      rw [List.getElem?_eq_getElem (by omega)] at h1
      refine okB_of_trodW (List.all_eq_true.1 hp fd (by
        rw [Array.mem_toList_iff]; exact Array.mem_of_getElem? hfd)) h1 (fun k hk => hM k ?_)
      simp only [DataW.weights, hu]
      refine weightsEach_at (i := i) (t := fd.type) (d := (xs[i]'(by omega)).1) ?_ ?_ k hk
      · rw [List.getElem?_map, Array.getElem?_toList, hfd]; rfl
      · rw [List.getElem?_map, List.getElem?_eq_getElem (by omega)]; rfl
    · obtain ⟨xs, n', _, rfl, hl, hlen, hf⟩ := DataW.trod_array hu h
      refine ⟨hl, fun i hi => ?_⟩
      have h1 := hf i hi
      rw [List.getElem?_eq_getElem (by omega)] at h1
      refine okB_of_trodW hp h1 (fun k hk => hM k ?_)
      simp only [DataW.weights, hu]
      exact weightsAll_at (List.mem_map.2 ⟨_, List.getElem_mem (by omega), rfl⟩) k hk
    · simp at hp
/-- a call -/
structure DoD where
  op : Int
  n : Int
  bat : BatchD
  byt : RwD
def doCs (d : DoD) : List Value := [.int .i64 d.op, .int .i64 d.n, d.bat.puts.cell, d.bat.dels.cell, d.byt.cell]
def DoOk (w : World) (d : DoD) : Prop := d.n ≤ 9223372036854775807 ∧ BatOk w d.bat ∧ (d.bat.puts.n * 40 ≤ MB ∧ d.bat.dels.n * 16 ≤ MB) ∧ RwOk MB w d.byt
theorem ok_batchB {w : World} {f : Nat} {c : List Value} (h : OkB Tryz.prog w MB (f + 5) 41 c) : ∃ x, c = batCs x ∧ BatOk w x ∧ (x.puts.n * 40 ≤ MB ∧ x.dels.n * 16 ≤ MB) := by
  obtain ⟨x, hc, hx⟩ := ok_batch h.ok
  obtain ⟨hl, hf⟩ := h.struct Tryz.underlying41
  rw [show Tryz.prog.cellsOf 41 = 2 from by kernel_rfl] at hl
  subst hc
  have k0 : Tryz.prog.cellsOf 38 = 1 := by kernel_rfl
  have k1 : Tryz.prog.cellsOf 39 = 1 := by kernel_rfl
  have g0 : OkB Tryz.prog w MB (f + 4) 38 [x.puts.cell] := by have := hf 0 _ rfl; simpa [k0, batCs] using this
  have g1 : OkB Tryz.prog w MB (f + 4) 39 [x.dels.cell] := by have := hf 1 _ rfl; simpa [k1, batCs] using this
  obtain ⟨a, len, cap, e0, l0, ⟨_, m0⟩, _⟩ := g0.slice Tryz.underlying38
  obtain ⟨a', len', cap', e1, l1, ⟨_, m1⟩, _⟩ := g1.slice Tryz.underlying39
  rw [show Tryz.prog.bytesOf 58 = 40 from by kernel_rfl] at m0
  rw [show Tryz.prog.bytesOf 9 = 16 from by kernel_rfl] at m1
  injection e0 with e0
  injection e1 with e1
  injection e0 with _ e0 _
  injection e1 with _ e1 _
  exact ⟨x, rfl, hx, by rw [e0]; omega, by rw [e1]; omega⟩
theorem ok_do {w : World} {f : Nat} {c : List Value} (h : OkB Tryz.prog w MB (f + 6) 43 c) : ∃ x, c = doCs x ∧ DoOk w x := by
  obtain ⟨hl, hf⟩ := h.struct Tryz.underlying43
  rw [show Tryz.prog.cellsOf 43 = 5 from by kernel_rfl] at hl
  obtain ⟨c0, c1, c2, c3, c4, rfl⟩ : ∃ c0 c1 c2 c3 c4, c = [c0, c1, c2, c3, c4] := by
    match c, hl with
    | [c0, c1, c2, c3, c4], _ => exact ⟨c0, c1, c2, c3, c4, rfl⟩
  have k0 : Tryz.prog.cellsOf 3 = 1 := by kernel_rfl
  have k2 : Tryz.prog.cellsOf 41 = 2 := by kernel_rfl
  have k3 : Tryz.prog.cellsOf 22 = 1 := by kernel_rfl
  have g0 : OkB Tryz.prog w MB (f + 5) 3 [c0] := by have := hf 0 _ rfl; simpa [k0] using this
  have g1 : OkB Tryz.prog w MB (f + 5) 3 [c1] := by have := hf 1 _ rfl; simpa [k0] using this
  have g2 : OkB Tryz.prog w MB (f + 5) 41 [c2, c3] := by have := hf 2 _ rfl; simpa [k2] using this
  have g3 : OkB Tryz.prog w MB (f + 5) 22 [c4] := by have := hf 3 _ rfl; simpa [k3] using this
  obtain ⟨z0, e0, _⟩ := g0.int Tryz.underlying3
  obtain ⟨z1, e1, hz1⟩ := g1.int Tryz.underlying3
  obtain ⟨xb, eb, hb, hbb⟩ := ok_batchB (f := f) g2
  obtain ⟨r, er, hr⟩ := Ok.row (f := f + 3) (Nat.le_refl _) g3.ok
  injection e0 with e0; injection e1 with e1; injection er with er
  have eb' : [c2, c3] = [xb.puts.cell, xb.dels.cell] := eb
  injection eb' with eb1 eb2; injection eb2 with eb2
  subst e0 e1 er eb1 eb2
  have hn : z1 ≤ 9223372036854775807 := by
    have h := bounds_i64 hz1
    exact h.2
  exact ⟨⟨z0, z1, xb, r⟩, rfl, hn, hb, hbb, hr⟩
theorem OkB.sl {α : Type} {P : Program} {w : World} {M f : Nat} {t e : TypeId} {c : List Value} {k : Nat} {cs : α → List Value} {ok : World → α → Prop} (hM : M ≤ 140737488351232) (ht : P.underlying t = some (.slice e)) (hk : P.cellsOf e = k) (h : OkB P w M (f + 1) t c) (x0 : α)
    (he : ∀ c', OkB P w M f e c' → ∃ x, c' = cs x ∧ ok w x) : ∃ s : SlD α, c = [s.cell] ∧ SlOk M k cs ok w s := by
  obtain ⟨a, len, cap, rfl, h1, ⟨h2, _⟩, h3, h4⟩ := h.slice ht
  have each : ∀ i, i < len → ∃ x : α, ∃ b o, a = some ⟨b, o, none⟩ ∧ (cs x).length = k ∧ CellsAt w b (o + i * k) (cs x) ∧ ok w x := fun i hi => by
    obtain ⟨b, o, cs', e1, e2, e3, e4⟩ := h4 i hi
    obtain ⟨x, rfl, hx⟩ := he cs' e4
    rw [hk] at e2 e3
    exact ⟨x, b, o, e1, e2, e3, hx⟩
  rcases Nat.eq_zero_or_pos len with h0 | h0
  · exact ⟨⟨a, len, cap, fun _ => x0⟩, rfl, h1, ⟨Nat.le_trans h1 h2, Nat.le_trans h2 (by omega)⟩, h3, fun i hi => by have hi' : i < len := hi; omega⟩
  · have : Nonempty α := ⟨x0⟩
    have each' : ∀ i, ∃ x : α, i < len → ∃ b o, a = some ⟨b, o, none⟩ ∧ (cs x).length = k ∧ CellsAt w b (o + i * k) (cs x) ∧ ok w x := fun i => by
      rcases Nat.lt_or_ge i len with hi | hi
      · obtain ⟨x, hx⟩ := each i hi
        exact ⟨x, fun _ => hx⟩
      · exact ⟨x0, fun h => absurd h (by omega)⟩
    exact ⟨⟨a, len, cap, fun i => Classical.choose (each' i)⟩, rfl, h1, ⟨Nat.le_trans h1 h2, Nat.le_trans h2 (by omega)⟩, h3, fun i hi => Classical.choose_spec (each' i) hi⟩
end Go.Proofs.YtbjbjgfjaopibaaGreatDoor
end

section
/- The law JournalLives: walked. -/
namespace Go.Proofs.YtbjbjgfjaopibaaGreatDoor
open Go Go.RowKit
set_option linter.unusedSimpArgs false
set_option linter.unusedVariables false
set_option maxRecDepth 100000

theorem pdoes {W w : World} {P p j b y x : Nat} {o oy : Option Nat} {s : JS} {L : List PairD} (hW : Glob W) (h : J2 W w P p o j b y oy x s L) (d : DoD) (hd : DoOk W d) :
    Calls Tryz.prog 7 #[.pointer (some ⟨P, 0, none⟩), .agg (doCs d).toArray] w fun e w' => e = .returned (.bool true) ∧ LV W P p y w' := by
  obtain ⟨op, n, ⟨⟨pa, pn, pc, px⟩, ⟨da, dn, dc, dx⟩⟩, ⟨ba, bc, bz⟩⟩ := d
  change Calls Tryz.prog 7 #[.pointer (some ⟨P, 0, none⟩), .agg #[.int .i64 op, .int .i64 n, .slice pa pn pc, .slice da dn dc, .slice ba bz.length bc]] w _
  obtain ⟨hn, hX, ⟨hp, hq⟩, hr⟩ := hd
  have e1 : wrap64 ((IntKind.u64.wrap op).tmod 10) = op % 18446744073709551616 % 10 := by
    rw [IntKind.wrap_u64, Int.tmod_eq_emod_of_nonneg (by omega)]
    unfold wrap64; omega
  have h3 : 0 ≤ op % 18446744073709551616 % 10 ∧ op % 18446744073709551616 % 10 < 10 := by omega
  generalize op % 18446744073709551616 % 10 = m at *
  rcases (by omega : m = 0 ∨ m = 1 ∨ m = 2 ∨ m = 3 ∨ m = 4 ∨ m = 5 ∨ m = 6 ∨ m = 7 ∨ m = 8 ∨ m = 9) with rfl | rfl | rfl | rfl | rfl | rfl | rfl | rfl | rfl | rfl
  · exact pdoes_commit hW h op n pa da ba pn pc dn dc bz.length bc px dx 0 (.inl rfl) e1 hX hX.old hp hq
  · exact pdoes_commit hW h op n pa da ba pn pc dn dc bz.length bc px dx 1 (.inr (.inl rfl)) e1 hX hX.old hp hq
  · exact pdoes_commit hW h op n pa da ba pn pc dn dc bz.length bc px dx 2 (.inr (.inr (.inl rfl))) e1 hX hX.old hp hq
  · exact pdoes_commit hW h op n pa da ba pn pc dn dc bz.length bc px dx 3 (.inr (.inr (.inr (.inl rfl)))) e1 hX hX.old hp hq
  · exact pdoes_commit hW h op n pa da ba pn pc dn dc bz.length bc px dx 4 (.inr (.inr (.inr (.inr rfl)))) e1 hX hX.old hp hq
  · exact pdoes_fuse h op n pa da ba pn pc dn dc bz.length bc e1 hn
  · exact pdoes_room h op n pa da ba pn pc dn dc bz.length bc e1 hn
  · exact pdoes_crash hW h op n pa da ba pn pc dn dc bz.length bc e1
  · exact pdoes_open hW h op n pa da ba pn pc dn dc bz.length bc e1
  · exact pdoes_append hW h op n pa da ba pn pc dn dc bz.length bc e1 bz rfl hr.1.bytes hr.1.range (by have h : bz.length ≤ 140737488351232 := hr.1.len; omega)
theorem LV.same {W w : World} {P p y : Nat} (h : LV W P p y w) : Calls Tryz.prog 8 #[.pointer (some ⟨P, 0, none⟩)] w fun e w' => e = .returned (.bool true) ∧ Below w.heap.size w w' := by
  rcases h with ⟨_, _, _, _, _, _, h⟩ | ⟨_, _, _, _, _, _, _, h⟩
  · exact psame_nil h
  · exact psame h
theorem LV.more {W w w' : World} {P p y : Nat} (h : LV W P p y w) (hb : Below w.heap.size w w') : LV W P p y w' := by
  rcases h with ⟨_, _, _, _, _, _, h⟩ | ⟨_, _, _, _, _, _, _, h⟩
  · exact .inl ⟨_, _, _, _, _, _, h.more hb⟩
  · exact .inr ⟨_, _, _, _, _, _, _, h.more hb⟩
theorem LV.bel {W w : World} {P p y : Nat} (h : LV W P p y w) : Below W.heap.size W w := by
  rcases h with ⟨_, _, _, _, _, _, h⟩ | ⟨_, _, _, _, _, _, _, h⟩
  · exact h.pt.bel
  · exact h.ph.t.bel
theorem arr_oneD {l : List Value} (h : ∀ u ∈ l, u.oneCell' = true) : l.toArray.all (·.oneCell') = true := by
  rw [Array.all_eq_true]; intro i hi
  exact h _ (by simp)
theorem cells_rangeD {w : World} {b o : Nat} {cs : List Value} (h : CellsAt w b o cs) : w.rangeAt b o cs := fun j v hv => (h j (List.getElem?_eq_some_iff.1 hv).1).trans hv
theorem do_one (x : DoD) : ∀ u ∈ doCs x, u.oneCell' = true := fun u hu => by
  simp only [doCs, List.mem_cons, List.not_mem_nil, or_false] at hu
  rcases hu with rfl | rfl | rfl | rfl | rfl <;> rfl
set_option maxHeartbeats 12800000 in
theorem lives_walk (q : Option Addr) (len cap : Nat) (zs : List Int) (room : Int) (a : Option Addr) (n c : Nat) (X : Nat → DoD) (W : World) (G : Glob W) (hz : min (len : Int) 5000 = (zs.length : Int)) (hlen : len ≤ 9223372036854775807) (hcap : zs.length ≤ cap) (hy : Lib.BytesIn W q zs.length zs) (hb : Byt zs) (hX : ElemsIn W a n 5 doCs DoOk X) (hn : n ≤ 140737488351232) :
    Calls Tryz.prog 3 #[.slice q len cap, .int .i64 room, .slice a n c] W fun e w' => e = .returned (.bool true) ∧ Below W.heap.size W w' := by
  have hz5 : zs.length ≤ 5000 := by omega
  obtain ⟨R, hR⟩ : ∃ R, R = room % 18446744073709551616 % 20000 := ⟨_, rfl⟩
  have e1 : wrap64 ((IntKind.u64.wrap room).tmod 20000) = R := by
    rw [hR, IntKind.wrap_u64, Int.tmod_eq_emod_of_nonneg (by omega)]
    unfold wrap64; omega
  have hR0 : 0 ≤ R ∧ R < 20000 := by omega
  clear hR
  obtain ⟨ro, hro⟩ : ∃ ro : Int, ro = (zs.length : Int) + R := ⟨_, rfl⟩
  have hrw : IntKind.i64.wrap ((zs.length : Int) + R) = ro := by rw [hro]; exact IntWalk.i64_in _ (by omega)
  have PN := Lib.hid (tof q cap zs ro W hy (by omega) (by omega) (by omega))
  have HX := Lib.hid (And.intro hX (Below.refl W.heap.size W))
  have HB := Lib.hid (And.intro G (And.intro hb hy))
  have HRO := Lib.hid (And.intro hro hR0)
  clear hX G hb hy hro
  obtain ⟨zl, hzl⟩ : ∃ zl, zl = zs.length := ⟨_, rfl⟩
  rw [← hzl] at hz hz5 hcap PN hrw
  have HZ := Lib.hid hzl
  clear hzl
  go_enter Tryz.func3, Tryz.ntmps3
  go_upto_region 2 with fail
  clear e1
  go_wp2_with fail
  refine PN.out.mono ?_
  rintro e w1 ⟨p, o, rfl, hT, hp, ho, hb1⟩
  have PR := rof q cap zs ro w1 (bytes_keep HB.out.2.2 (Keep.of_below (X := fun _ => False) hb1) (fun _ _ _ h => h)) (by have := HRO.out; omega) (by have := HRO.out; have := HZ.out; omega) (by have := HRO.out; omega)
  rw [← HZ.out] at PR
  have PR := Lib.hid PR
  have H1 := Lib.hid (And.intro hT (And.intro hp (And.intro ho hb1)))
  clear hT hp ho hb1 PN
  go_wp2_with fail
  clear hz
  refine PR.out.mono ?_
  rintro e w2 ⟨y, oy, rfl, hY, hy2, hoy, hb2⟩
  have bP := Blk.new w2 #[.pointer none, .pointer none, .pointer (some ⟨p, 0, none⟩), .pointer (some ⟨y, 0, none⟩)] 36
  have kP := (Below.refl w2.heap.size w2).alloc (Nat.le_refl _) (.cells #[.pointer none, .pointer none, .pointer (some ⟨p, 0, none⟩), .pointer (some ⟨y, 0, none⟩)] 36)
  have hs3 : (w2.alloc (.cells #[.pointer none, .pointer none, .pointer (some ⟨p, 0, none⟩), .pointer (some ⟨y, 0, none⟩)] 36)).heap.size = w2.heap.size + 1 := by simp
  obtain ⟨w3, hw3⟩ : ∃ w3, w3 = w2.alloc (.cells #[.pointer none, .pointer none, .pointer (some ⟨p, 0, none⟩), .pointer (some ⟨y, 0, none⟩)] 36) := ⟨_, rfl⟩
  obtain ⟨P, hP⟩ : ∃ P, P = w2.heap.size := ⟨_, rfl⟩
  rw [← hw3] at bP kP hs3
  rw [← hP] at bP hs3
  have hs12 : w1.heap.size ≤ w2.heap.size := hb2.size
  have hsW1 : W.heap.size ≤ w1.heap.size := H1.out.2.2.2.size
  have hTlt := H1.out.1.lt
  have hYlt := ref_lt hY
  have htok : TpOk zs zs.length ro (-1) := ⟨HB.out.2.1, by have := HZ.out; omega, by have := HRO.out; omega, by have := HRO.out; have := HZ.out; omega, by decide, by decide, by omega, Int.le_refl _⟩
  have hfp : ∀ k, foot p o k → W.heap.size ≤ k ∧ k < w1.heap.size := fun k hk => ⟨by
    rcases hk with rfl | hk
    · exact H1.out.2.1
    · exact H1.out.2.2.1 k hk, hTlt k hk⟩
  have hfy : ∀ k, foot y oy k → w1.heap.size ≤ k ∧ k < w2.heap.size := fun k hk => ⟨by
    rcases hk with rfl | hk
    · exact hy2
    · exact hoy k hk, hYlt k hk⟩
  have hbW3 : Below W.heap.size W w3 := (H1.out.2.2.2.trans (hb2.mono hsW1)).trans (kP.mono (by omega))
  have hTp : TapeAt w3 p zs zs.length ro (-1) o := by
    have h := H1.out.1
    rw [HZ.out] at h
    exact (h.keep (Keep.of_below (X := fun _ => False) hb2) (fun _ _ h => h)).keep (Keep.of_below (X := fun _ => False) kP) (fun _ _ h => h)
  have hYp : RefAt w3 y zs zs.length ro (-1) oy := by
    have h := hY
    rw [HZ.out] at h
    exact ref_keep h (Keep.of_below (X := fun _ => False) kP) (fun _ _ h => h)
  have T0 : TwoT W w3 P p o y oy (.pointer none) (.pointer none) zs zs.length ro (-1) :=
    ⟨⟨hbW3, htok, hTp, fun k hk => ⟨⟨(hfp k hk).1, fun hf => by
        have h1 := (hfp k hk).2
        rcases hf with hf | hf
        · have := (hfy k hf).1; omega
        · omega⟩, by have := (hfp k hk).2; omega⟩, fun k hf => by
        rcases hf with hf | hf
        · have := (hfy k hf).2; omega
        · omega⟩,
     ⟨hbW3, htok, hYp, fun k hk => ⟨⟨by have := (hfy k hk).1; omega, fun hf => by
        have h1 := (hfy k hk)
        rcases hf with hf | hf
        · have := (hfp k hf).2; omega
        · omega⟩, by have := (hfy k hk).2; omega⟩, fun k hf => by
        rcases hf with hf | hf
        · have := (hfp k hf).2; omega
        · omega⟩, bP, by omega⟩
  have PO := Lib.hid (popen HB.out.1 T0)
  have hop : (opnS zs zs.length ro (-1)).1 = 0 := by unfold opnS; rw [if_neg (fun f => absurd f.2 (by decide))]
  have HOP := Lib.hid hop
  clear hY hy2 hoy hb2 bP kP hs3 hs12 hsW1 hTlt hYlt htok hfp hfy hbW3 hTp hYp T0 hop PR
  go_upto_region 5 with fail
  rw [← hw3, ← hP]
  clear hw3 hP
  go_wp2_with fail
  refine PO.out.mono ?_
  rintro e w4 hpost
  obtain rfl := hpost.1
  rcases hpost.2.2 with ⟨h150, _⟩ | ⟨j, b, x, oy', L, hJ⟩
  · exact absurd (HOP.out.symm.trans h150) (by decide)
  have c0 := hJ.pb.cell 0
  have HJ := Lib.hid (show LV W P p y w4 from .inr ⟨_, _, _, _, _, _, _, hJ⟩)
  clear hJ hpost PO
  go_wp2
  go_loopg [69] n (fun gh i wx => ∃ k : Nat, i = .int .i64 (k : Int) ∧ gh = n - k ∧ k ≤ n ∧ Hid (LV W P p y wx))
  case atStart => exact ⟨0, rfl, rfl, Nat.zero_le _, HJ.out⟩
  case round =>
    obtain ⟨k, rfl, hg, hkn, HK⟩ := hrel
    have HG := Lib.hid hg
    clear hg
    by_cases hlt : k < n
    · obtain ⟨b', o', rfl, hcl, hca, hok⟩ := HX.out.1 k hlt
      obtain ⟨IC, hIC⟩ : ∃ IC, IC = doCs (X k) := ⟨_, rfl⟩
      rw [← hIC] at hcl hca
      have hone1 : IC.toArray.all (·.oneCell') = true := by rw [hIC]; exact arr_oneD (do_one _)
      have HIC := Lib.hid (And.intro hIC hok)
      clear hIC hok
      have hsa1 : IC.toArray.size = 5 := by rw [List.size_toArray]; exact hcl
      have hr1 := cells_rangeD (hca.below HK.out.bel)
      have bz := Blk.new wr #[.int .i64 0, .int .i64 0, .slice none 0 0, .slice none 0 0, .slice none 0 0] 43
      have kz := (Below.refl wr.heap.size wr).alloc (Nat.le_refl _) (.cells #[.int .i64 0, .int .i64 0, .slice none 0 0, .slice none 0 0, .slice none 0 0] 43)
      have hinf1 : (Tryz.prog.info? 43).map (·.size) = some IC.toArray.size := by rw [hsa1]; kernel_rfl
      have hinf1' : (Tryz.prog.info? 43).map (·.size) = some IC.length := by rw [hcl]; kernel_rfl
      have hsz1 : (#[.int .i64 0, .int .i64 0, .slice none 0 0, .slice none 0 0, .slice none 0 0] : Array Value).size = IC.toArray.size := by rw [hsa1]; rfl
      have bx := bz.setAll IC.toArray hsz1
      have kx := below_setCells (B := wr.heap.size) (g := wr.heap.size) (Nat.le_refl _) IC.toArray.toList 0 (wr.alloc (.cells #[.int .i64 0, .int .i64 0, .slice none 0 0, .slice none 0 0, .slice none 0 0] 43)) kz
      clear hca kz hcl hsa1
      go_upto_region 10 with (first | (refine wpList_load_mid rfl 43 (.tmp 72) rfl b' (o' + k * 5) rfl IC _ hr1 Tryz.underlying43 rfl hinf1' ?_) | (refine wpl_store rfl 43 (.tmp 13) (.tmp 73) rfl rfl rfl bz hsz1 hinf1 hone1 ?_))
      rw [List.toList_toArray] at kx bx
      change Blk ((wr.alloc (.cells #[.int .i64 0, .int .i64 0, .slice none 0 0, .slice none 0 0, .slice none 0 0] 43)).setCells wr.heap.size 0 IC) wr.heap.size IC.toArray 43 at bx
      clear bz hr1
      generalize (wr.alloc (.cells #[.int .i64 0, .int .i64 0, .slice none 0 0, .slice none 0 0, .slice none 0 0] 43)).setCells wr.heap.size 0 IC = w5 at *
      generalize hgx : wr.heap.size = gx at *
      have hb5 : Below wr.heap.size wr w5 := by rw [hgx]; exact kx
      have HV5 := Lib.hid (HK.out.more hb5)
      have r1 := cells_rangeD (w := w5) (b := gx) (o := 0) (cs := IC) (fun t ht => by rw [Nat.zero_add, bx.cell, List.getElem?_toArray])
      clear hb5 kx bx
      by_cases hk40 : (40 : Int) < (k : Int)
      · have d1 : decide ((40 : Int) < (k : Int)) = true := decide_eq_true hk40
        clear hk40
        go_wp2
        go_ret
        exact ⟨rfl, HV5.out.bel⟩
      · have d1 : decide ((40 : Int) < (k : Int)) = false := decide_eq_false hk40
        clear hk40
        rcases HV5.out with ⟨_, _, _, _, _, _, hv⟩ | ⟨_, _, j5, b5, x5, s5, L5, hv⟩
        · have c1 := hv.pb.cell 1
          have HF := Lib.hid hv.pt.bel
          clear hv
          go_wp2
          go_ret
          exact ⟨rfl, HF.out⟩
        · have c1 := hv.pb.cell 1
          have PD := pdoes HB.out.1 hv (X k) HIC.out.2
          rw [← HIC.out.1] at PD
          have PD := Lib.hid PD
          clear hv
          go_upto_region 11 with fail
          go_wp2_with (first | (refine wpList_load_mid rfl 43 (.tmp 13) rfl gx 0 rfl IC _ r1 Tryz.underlying43 rfl hinf1' ?_))
          refine PD.out.mono ?_
          rintro e w6 ⟨rfl, hv6⟩
          have PS := Lib.hid hv6.same
          have HV6 := Lib.hid hv6
          clear hv6
          go_wp2_with fail
          refine PS.out.mono ?_
          rintro e w7 ⟨rfl, hb7⟩
          have HV7 := Lib.hid (HV6.out.more hb7)
          clear hb7 c1 r1
          go_wp2
          go_roundg (n - (k + 1))
          case measure => rw [HG.out]; omega
          case rel => exact ⟨k + 1, by go_num, rfl, hlt, HV7.out⟩
    · obtain rfl : k = n := by omega
      go_wp2
      go_ret
      exact ⟨rfl, HK.out.bel⟩
theorem bytes_takeL {w : World} {q : Option Addr} {n m : Nat} {xs : List Int} (h : Lib.BytesIn w q n xs) (hm : m ≤ n) (hx : xs.length = n) : Lib.BytesIn w q (xs.take m).length (xs.take m) := fun h0 => by
  rw [List.length_take] at h0 ⊢
  obtain ⟨b, o, e1, hc⟩ := h.at (by omega)
  refine ⟨b, o, e1, fun i hi => ?_⟩
  rw [hc i (by omega), List.getD_eq_getElem?_getD, List.getD_eq_getElem?_getD, List.getElem?_take_of_lt (by omega)]
theorem lives_full (q : Option Addr) (cap : Nat) (xs : List Int) (room : Int) (a : Option Addr) (n c : Nat) (X : Nat → DoD) (W : World) (G : Glob W) (hy : Lib.BytesIn W q xs.length xs) (hl : xs.length ≤ 140737488351232) (hcap : xs.length ≤ cap) (hb : ∀ x ∈ xs, 0 ≤ x ∧ x ≤ 255) (hX : ElemsIn W a n 5 doCs DoOk X) (hn : n ≤ 140737488351232) :
    Calls Tryz.prog 3 #[.slice q xs.length cap, .int .i64 room, .slice a n c] W fun e w' => e = .returned (.bool true) ∧ Below W.heap.size W w' := by
  have e1 : (xs.take (min xs.length 5000)).length = min xs.length 5000 := by rw [List.length_take]; omega
  exact lives_walk q xs.length cap (xs.take (min xs.length 5000)) room a n c X W G (by rw [e1]; omega) (by omega) (by rw [e1]; omega) (bytes_takeL hy (by omega) rfl) (Byt.take hb _) hX hn
end Go.Proofs.YtbjbjgfjaopibaaGreatDoor
end

section
/- Opening arguments: the calls of a journal; the weights bound every length. -/
namespace Go.Proofs.YtbjbjgfjaopibaaGreatDoor
open Go Go.ChangeShapes Go.WideShapes Go.ChangeAt Go.RowKit
set_option linter.unusedVariables false
set_option maxRecDepth 100000

theorem sized_partD {H : Type} {ts : List TypeId} {ds : List (DataW H)} {jj : Nat} {t : TypeId} {d : DataW H} (hsz : (DataW.weightsEach Tryz.prog ts ds).all (· ≤ reachBytes) = true) (ht : ts[jj]? = some t) (hd : ds[jj]? = some d) : ∀ m ∈ d.weights Tryz.prog t, m ≤ MB := fun m hm => by
  have h := List.all_eq_true.1 hsz m (weightsEach_at ht hd m hm)
  exact of_decide_eq_true h
section
variable {H : Type} {enc : TypeId × Value → H} {w : World} {b0 : Nat} {r : Reach} {v : Value} {d : DataW H} {p : List MemPlace} {ts : List TypeId} {ds : List (DataW H)} {jj : Nat}
theorem open_jdosW (hv : Value.okWide Tryz.prog w r b0 23 v) (h : DataW.Trod enc Tryz.prog w 0 (fun _ => true) true 23 v d p) (hsz : (DataW.weightsEach Tryz.prog ts ds).all (· ≤ reachBytes) = true) (ht : ts[jj]? = some 23) (hd : ds[jj]? = some d) :
    ∃ s : SlD DoD, v = .slice s.a s.n s.c ∧ SlOk MB 5 doCs DoOk w s := by
  obtain ⟨a0, len, cap, rfl⟩ := okWide_slice Tryz.underlying23 hv
  obtain ⟨fuel, hf⟩ := h
  have hok := okB_of_trodW (M := MB) (f := 7) (by kernel_rfl) hf (sized_partD hsz ht hd)
  obtain ⟨s, e, hs⟩ := OkB.sl (f := 6) (k := 5) (cs := doCs) (ok := DoOk) (Nat.le_refl _) Tryz.underlying23 (by kernel_rfl) hok (⟨0, 0, ⟨⟨none, 0, 0, fun _ => ⟨⟨#[]⟩, ⟨none, 0, []⟩⟩⟩, ⟨none, 0, 0, fun _ => ⟨#[]⟩⟩⟩, ⟨none, 0, []⟩⟩ : DoD) (fun c' hc => ok_do (f := 0) hc)
  have e' : [Value.slice a0 len cap] = [s.cell] := e
  exact ⟨s, by injection e', hs⟩
end
end Go.Proofs.YtbjbjgfjaopibaaGreatDoor
end

section
/- The laid tables of sha, read. -/
namespace Go.Proofs.YtbjbjgfjaopibaaGreatDoor
open Go Go.RowKit Go.ChangeShapes Go.WideShapes
set_option maxRecDepth 100000

theorem gFirst : Tryz.prog.globalNamed "sporran/sha.first" = some 0 := by kernel_rfl
theorem gWords : Tryz.prog.globalNamed "sporran/sha.words" = some 1 := by kernel_rfl
theorem tFirst : (Tryz.prog.globals[0]?).map (·.type) = some 137 := by kernel_rfl
theorem tWords : (Tryz.prog.globals[1]?).map (·.type) = some 143 := by kernel_rfl
theorem u32cells : Tryz.prog.cellsOf 122 = 1 := by kernel_rfl
/-- an array of words of 32 bits, read -/
theorem trod_u32s {H : Type} {enc : TypeId × Value → H} {w : World} {base : Nat} {spare : Nat → Bool} {held : Bool} {fuel n : Nat} {t : TypeId} {cs : List Value} {d : DataW H} {ps : List MemPlace} (L : List Int)
    (ht : Tryz.prog.underlying t = some (.array n 122)) (h : DataW.trod enc Tryz.prog w base spare held fuel t cs = some (d, ps)) (hd : d = .agg (L.map fun k => .lit (.int .u32 k))) (hL : L.length = n) (hct : Tryz.prog.cellsOf t = n) :
    ∀ i, i < n → cs[i]? = some (.int .u32 (L.getD i 0)) := by
  obtain ⟨xs, m, _, hx, hl, hn, hi⟩ := DataW.trod_array ht h
  rw [u32cells] at hi
  rw [hct] at hl
  intro i hlt
  have h1 := hi i hlt
  rw [Nat.mul_one] at h1
  obtain ⟨x, hxi⟩ : ∃ x, xs[i]? = some x := ⟨xs[i]'(by omega), List.getElem?_eq_getElem (by omega)⟩
  rw [hxi] at h1
  have hc : cs[i]? = some (cs[i]'(by omega)) := List.getElem?_eq_getElem (by omega)
  have h2 : (cs.drop i).take 1 = [cs[i]'(by omega)] := by simp [List.take_one, hc]
  rw [h2] at h1
  obtain ⟨z, e0, e1, _⟩ := DataW.trod_int Tryz.underlying122 h1
  rw [hc]
  simp at e0
  rw [e0]
  have e2 : xs.map (·.1) = L.map fun k => .lit (.int .u32 k) := by
    simp only [Prod.mk.injEq] at hx
    have := hx.1.symm.trans hd
    simpa using this
  have e3 := congrArg (fun l : List (DataW H) => l[i]?) e2
  simp only [List.getElem?_map, hxi, Option.map_some] at e3
  have hLi : L[i]? = some (L.getD i 0) := by
    rw [List.getD_eq_getElem?_getD, List.getElem?_eq_getElem (by omega)]; rfl
  rw [hLi, Option.map_some, e1] at e3
  simp at e3
  rw [e3]; simp [List.getD_eq_getElem?_getD]
def s0L : List Int := [0x6a09e667, 0xbb67ae85, 0x3c6ef372, 0xa54ff53a, 0x510e527f, 0x9b05688c, 0x1f83d9ab, 0x5be0cd19]
def kwL : List Int := shaK.map fun (n : Nat) => (n : Int)
theorem s0L_iv (i : Nat) (hi : i < 8) : s0L.getD i 0 = iv (s0 i) := by
  rcases (by omega : i = 0 ∨ i = 1 ∨ i = 2 ∨ i = 3 ∨ i = 4 ∨ i = 5 ∨ i = 6 ∨ i = 7) with h | h | h | h | h | h | h | h <;> subst h <;> kernel_rfl
theorem shaK_lt : ∀ i, i < 64 → shaK.getD i 0 < 4294967296 := by decide +kernel
theorem kwL_iv (i : Nat) (hi : i < 64) : kwL.getD i 0 = iv (kw i) := by
  unfold kwL kw iv
  rw [BitVec.toNat_ofNat, Nat.mod_eq_of_lt (shaK_lt i hi), List.getD_eq_getElem?_getD, List.getElem?_map, List.getD_eq_getElem?_getD]
  have : shaK[i]? = some (shaK[i]'(by rw [show shaK.length = 64 from rfl]; exact hi)) := List.getElem?_eq_getElem _
  rw [this]; rfl
theorem glob_of {W : World} (h : laidMetH Tryz.prog [("sporran/sha.words", Rows.laid_sporran_sha_words), ("sporran/sha.first", Rows.laid_sporran_sha_first)] W) : Glob W := by
  rw [MakeChecks.laidMetH_plain _ _ _ (by kernel_rfl)] at h
  obtain ⟨ps, ⟨g0, t0, cs0, f0, p0, q0, hg0, ht0, hv0, hd0, ⟨g1, t1, cs1, f1, p1, q1, hg1, ht1, hv1, hd1, _, _⟩, _⟩, _, _⟩ := h
  obtain rfl := Option.some.inj (gWords.symm.trans hg0)
  obtain rfl := Option.some.inj (gFirst.symm.trans hg1)
  obtain rfl := Option.some.inj (tWords.symm.trans ht0)
  obtain rfl := Option.some.inj (tFirst.symm.trans ht1)
  refine ⟨fun i hi => ?_, fun i hi => ?_⟩
  · have hc := trod_u32s s0L Tryz.underlying137 hd1 (by kernel_rfl) rfl (by kernel_rfl) i hi
    have := World.var?_cell hg1 hv1 i
    rw [this]
    rw [s0L_iv i hi] at hc
    simpa using hc
  · have hc := trod_u32s kwL Tryz.underlying143 hd0 (by kernel_rfl) rfl (by kernel_rfl) i hi
    have := World.var?_cell hg0 hv0 i
    rw [this]
    rw [kwL_iv i hi] at hc
    simpa using hc
end Go.Proofs.YtbjbjgfjaopibaaGreatDoor
end

section
/- The statement JournalLives: for every input the law returns true, and its arguments read as before. No condition. -/
namespace Go.Proofs.YtbjbjgfjaopibaaGreatDoor
open Go.ChangeShapes Go.WideShapes Go.ChangeAt Go.RowKit
set_option linter.unusedVariables false

set_option maxRecDepth 100000 in
/-- The door's own heap meets the condition. -/
theorem door_met_journalLives (os : Os) (args : Array Value) : laidMetH Tryz.prog Rows.journalLivesRow.laid ((World.doorLaid Tryz.prog 19 os).forCall (fun _ _ => 0) ⟨#[], args, []⟩).memory :=
  laidMetH_of_parts3 (fuel := 8) (laidMet_of_run' 8 (by kernel_rfl) (by kernel_rfl)) (by kernel_rfl) (by kernel_rfl)
set_option maxRecDepth 100000 in
theorem journalLives_lifted (os : Os) (started : os.Started) (H : Type) (enc : TypeId × Value → H) :
    ReturnsInHanded {} Tryz.checked os 3 .any (fun w args => (Rows.journalLivesSpec.pre enc Tryz.prog Tryz.f3 [] false w args ∧ laidMetH Tryz.prog Rows.journalLivesRow.laid w) ∧ sizedMet enc Tryz.prog Tryz.f3 (OpenSpec.ofChange Rows.journalLivesSpec) false w args) (Rows.journalLivesSpec.post enc Tryz.prog Tryz.f3 false true false false) := by
  refine returnsInHanded_of_change_and (C := Tryz.checked) (X := fun w _ => laidMetH Tryz.prog Rows.journalLivesRow.laid w) (fun _ _ _ hh h => h.of_heap hh) Tryz.own started (by kernel_rfl) Tryz.func3
    (ChangeSpec.witness_shaped (enc := enc) (C := Tryz.checked) (os := os) (X := fun w _ => laidMetH Tryz.prog Rows.journalLivesRow.laid w) false (World.doorLaid Tryz.prog 19 os) #[.slice none 0 0, .int .i64 0, .slice none 0 0] 8 rfl (World.shaped_of_RefB (by kernel_rfl) (by kernel_rfl)) (by kernel_rfl) (by kernel_rfl) (by kernel_rfl) (door_met_journalLives os _)) ?_
  intro W base args ds gs before hval0 hW hcnd hsz0 hL _
  have hsz : (DataW.weightsEach Tryz.prog (Tryz.f3.params.toList ++ Rows.journalLivesSpec.plain.varTypes Tryz.prog) (ds ++ gs)).all (· ≤ reachBytes) = true := hsz0
  clear hsz0
  have hval : ∀ (j : Nat) t v, Tryz.f3.params[j]? = some t → args[j]? = some v → Value.okWide Tryz.prog W .any base t v := hval0
  have hW' := hW
  obtain ⟨p, q, hA0, hV, rfl, hfz, hnd⟩ := hW
  have hA : DataW.TrodAll enc Tryz.prog W 0 (fun _ => true) true Tryz.f3.params.toList args.toList ds p := hA0
  rw [Tryz.params3] at hA hval hsz
  obtain ⟨v0, vs0, d0, ds0, p0, q0, hargs, rfl, rfl, h0, r0⟩ := trodAll_cons hA
  obtain ⟨v1, vs1, d1, ds1, p1, q1, rfl, rfl, rfl, h1, r1⟩ := trodAll_cons r0
  obtain ⟨v2, vs2, d2, ds2, p2, q2, rfl, rfl, rfl, h2, r2⟩ := trodAll_cons r1
  obtain ⟨rfl, rfl, rfl⟩ := trodAll_nil r2
  obtain rfl : args = #[v0, v1, v2] := by cases args; simp_all
  obtain ⟨rfl, rfl⟩ := trodVars_none hV
  have k0 := h0
  have lt0 : ∀ x ∈ p0, x.block < W.heap.size := by obtain ⟨m, hm⟩ := k0; exact DataW.trod_lt m _ _ _ hm
  have k1 := h1
  have lt1 : ∀ x ∈ p1, x.block < W.heap.size := by obtain ⟨m, hm⟩ := k1; exact DataW.trod_lt m _ _ _ hm
  have k2 := h2
  have lt2 : ∀ x ∈ p2, x.block < W.heap.size := by obtain ⟨m, hm⟩ := k2; exact DataW.trod_lt m _ _ _ hm
  obtain ⟨a0, c0, x0, rfl, n0, w0, m0, y0, _, _, _⟩ := open_bytesS (hval 0 22 v0 rfl rfl) h0 hsz (jj := 0) rfl rfl
  obtain ⟨a1, rfl, e1, f1, w1⟩ := open_int Tryz.underlying3 (hval 1 3 v1 rfl rfl) h1
  clear e1 f1
  obtain ⟨s2, rfl, w2⟩ := open_jdosW (hval 2 23 v2 rfl rfl) h2 hsz (jj := 2) rfl rfl
  clear hA0 hval0
  refine (lives_full a0 c0 x0 a1 s2.a s2.n s2.c s2.x W (glob_of hL) w0 n0 m0 y0 w2.2.2.2 w2.2.1.1).mono fun e W' ⟨he, bel⟩ => ?_
  subst he
  exact ⟨_, rfl, _, _, _, [], _, [], hW', trodAll_mk1 (shut_bool Tryz.underlying4 _), (trodAll_cons_mk (Below.trod Tryz.laidOut (by kernel_rfl) (of_decide_eq_true (by kernel_rfl)) k0 bel lt0) (trodAll_cons_mk (Below.trod Tryz.laidOut (by kernel_rfl) (of_decide_eq_true (by kernel_rfl)) k1 bel lt1) (trodAll_cons_mk (Below.trod Tryz.laidOut (by kernel_rfl) (of_decide_eq_true (by kernel_rfl)) k2 bel lt2) trodAll_mk0))), rfl, bel.frame _, fun h => by cases h⟩

theorem journalLives_holds : Rows.JournalLivesSaid :=
  OpenClaim.holds_of_wide 3 Tryz.f3 rfl rfl rfl rfl rfl rfl rfl ⟨rfl, rfl, rfl, rfl, rfl⟩ rfl rfl rfl rfl rfl (by kernel_rfl) Tryz.func3 (by kernel_rfl)
    (of_decide_eq_true (by kernel_rfl)) (by unfold Func.isWrapper; first | (rw [if_pos (by decide +kernel)]; kernel_rfl) | (rw [if_neg (by decide +kernel)]; exact ⟨rfl, rfl⟩))
    (fun os started H enc _ => journalLives_lifted os started H enc)
set_option maxRecDepth 100000 in
theorem journalLivesCard_holds : Rows.JournalLivesCardSaid :=
  Claim7.holds_tied_plain_at .later [] [.data, .data] true (true, "c6a8fd4c4b2816f44308b139174d3b6f7feeda643f5e58b5248cb3e25ef415e8") false
    journalLives_holds (fun _ h => by cases h) (by kernel_rfl) (fun _ h => by cases h) journalLives_row_tie rfl ⟨rfl, rfl⟩ (by kernel_rfl) rfl
    (fun f fn hf hfn => by
      obtain rfl : f = 3 := Option.some.inj ((show Tryz.prog.funcNamed "sporran/sporranlaw16.JournalLives" = some 3 by kernel_rfl).symm.trans hf) |>.symm
      obtain rfl : fn = Tryz.f3 := (Option.some.inj (Tryz.func3.symm.trans hfn)).symm
      exact ⟨by kernel_rfl, fun j t ht => by
        rw [Tryz.params3] at ht
        have hm : t ∈ [22, 3, 23] := by simpa using Array.mem_of_getElem? ht
        have hall : ([22, 3, 23].all fun u => !Tryz.prog.wantsStandIn u) = true := by kernel_rfl
        exact (show Tryz.prog.wantsStandIn t = false by simpa using List.all_eq_true.1 hall t hm)⟩)
    (by kernel_rfl)
end Go.Proofs.YtbjbjgfjaopibaaGreatDoor
end
