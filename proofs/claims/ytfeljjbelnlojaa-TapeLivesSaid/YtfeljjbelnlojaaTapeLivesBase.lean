/- The law TapeLives: what holds between its rounds. -/
import Derived.Test.YtfeljjbelnlojaaTapeDoesB
namespace Go.Proofs.Ytfeljjbelnlojaa
open Go Go.RowKit
set_option linter.unusedSimpArgs false
set_option linter.unusedVariables false

theorem does_any {F : Nat → Prop} {p r : Nat} {a : TS} (op n : Int) (q : Option Addr) (c : Nat) (ys : List Int) (w : World) (hn : n ≤ 9223372036854775807) (h : Two F w p r a a) (ha : a.ok)
    (hy : Lib.BytesIn w q ys.length ys) (hyl : ys.length ≤ 140737488355328) (hq : 0 < ys.length → ∀ d, q = some d → ¬ F d.block) :
    Calls Try.prog 23 #[.pointer (some ⟨p, 0, none⟩), .pointer (some ⟨r, 0, none⟩), .agg #[.int .i64 op, .int .i64 n, .slice q ys.length c]] w fun e w' => e = .returned (.bool true) ∧ ∃ a', TS.ok a' ∧ Left F w w' p r a' a' := by
  have e1 : wrap64 ((IntKind.u64.wrap op).tmod 9) = op % 18446744073709551616 % 9 := by
    rw [IntKind.wrap_u64, Int.tmod_eq_emod_of_nonneg (by omega)]
    unfold wrap64; omega
  have h3 : 0 ≤ op % 18446744073709551616 % 9 ∧ op % 18446744073709551616 % 9 < 9 := by omega
  generalize op % 18446744073709551616 % 9 = m at *
  rcases (by omega : m = 0 ∨ m = 1 ∨ m = 2 ∨ m = 3 ∨ m = 4 ∨ m = 5 ∨ m = 6 ∨ m = 7 ∨ m = 8) with rfl | rfl | rfl | rfl | rfl | rfl | rfl | rfl | rfl
  · exact does_app0 op n q c ys w e1 hn h ha hy hyl hq
  · exact does_app1 op n q c ys w e1 hn h ha hy hyl hq
  · exact does_app2 op n q c ys w e1 hn h ha hy hyl hq
  · exact does_app3 op n q c ys w e1 hn h ha hy hyl hq
  · exact does_sync op n q c ys w e1 hn h ha hy hyl hq
  · exact does_cut op n q c ys w e1 hn h ha hy hyl hq
  · exact does_fuse op n q c ys w e1 hn h ha hy hyl hq
  · exact does_room op n q c ys w e1 hn h ha hy hyl hq
  · exact does_crash op n q c ys w e1 hn h ha hy hyl hq
/-- the copies, if there are -/
def CY (W : World) (F : Nat → Prop) (w : World) (cv yv : Value) : Prop :=
  (cv = .pointer none ∧ yv = .pointer none) ∨ ∃ p2 r2 G a2, cv = .pointer (some ⟨p2, 0, none⟩) ∧ yv = .pointer (some ⟨r2, 0, none⟩) ∧ TS.ok a2 ∧ Two G w p2 r2 a2 a2 ∧ (∀ k, G k → ¬ F k) ∧ (∀ k, G k → W.heap.size ≤ k)
def Inv (W : World) (F : Nat → Prop) (w : World) (p r : Nat) (a : TS) (cv yv : Value) : Prop :=
  TS.ok a ∧ Two F w p r a a ∧ (∀ k, F k → W.heap.size ≤ k) ∧ Below W.heap.size W w ∧ CY W F w cv yv
section
variable {W w w' : World} {F : Nat → Prop} {p r : Nat} {a a' : TS} {cv yv : Value}
theorem Inv.more (h : Inv W F w p r a cv yv) (hb : Below w.heap.size w w') : Inv W F w' p r a cv yv := by
  obtain ⟨h1, h2, h3, h4, h5⟩ := h
  refine ⟨h1, h2.more hb, h3, h4.trans (hb.mono h4.size), ?_⟩
  rcases h5 with h5 | ⟨p2, r2, G, a2, e1, e2, h6, h7, h8, h9⟩
  · exact .inl h5
  · exact .inr ⟨p2, r2, G, a2, e1, e2, h6, h7.more hb, h8, h9⟩
theorem Inv.left (h : Inv W F w p r a cv yv) (ha : a'.ok) (hl : Left F w w' p r a' a') : ∃ F', Inv W F' w' p r a' cv yv := by
  obtain ⟨h1, h2, h3, h4, h5⟩ := h
  obtain ⟨F', t, k, s⟩ := hl
  refine ⟨F', ha, t, fun j hj => (s j hj).elim (h3 j) (fun e => Nat.le_trans h4.size e), h4.trans (k.below h4.size h3), ?_⟩
  rcases h5 with h5 | ⟨p2, r2, G, a2, e1, e2, h6, h7, h8, h9⟩
  · exact .inl h5
  · exact .inr ⟨p2, r2, G, a2, e1, e2, h6, h7.keep k h8, fun j hj hf => (s j hf).elim (h8 j hj) (fun e => by have := h7.lt j hj; omega), h9⟩
/-- both are copied -/
theorem Inv.copied {w1 w2 : World} {p2 r2 : Nat} {o2 o2' : Option Nat} (h : Inv W F w p r a cv yv) (t : TapeAt w1 p2 a.xs a.sy a.ro a.fu o2) (hp : w.heap.size ≤ p2) (ho : ∀ g, o2 = some g → w.heap.size ≤ g) (hb : Below w.heap.size w w1)
    (t' : RefAt w2 r2 a.xs a.sy a.ro a.fu o2') (hr : w1.heap.size ≤ r2) (ho' : ∀ g, o2' = some g → w1.heap.size ≤ g) (hb' : Below w1.heap.size w1 w2) :
    Inv W F w2 p r a (.pointer (some ⟨p2, 0, none⟩)) (.pointer (some ⟨r2, 0, none⟩)) := by
  obtain ⟨h1, h2, h3, h4, h5⟩ := h
  have lt1 := t.lt
  have ge1 : ∀ k, foot p2 o2 k → w.heap.size ≤ k := by
    rintro k (rfl | e)
    · exact hp
    · exact ho k e
  have ge2 : ∀ k, foot r2 o2' k → w1.heap.size ≤ k := by
    rintro k (rfl | e)
    · exact hr
    · exact ho' k e
  have hs := hb.size
  refine ⟨h1, (h2.more hb).more hb', h3, (h4.trans (hb.mono h4.size)).trans (hb'.mono (Nat.le_trans h4.size hs)), .inr ⟨p2, r2, fun k => foot p2 o2 k ∨ foot r2 o2' k, a, rfl, rfl, h1, ⟨o2, o2', t.keep (X := fun _ => False) (Keep.of_below hb') (fun _ _ h => h), t', fun k e1 e2 => ?_, fun k => Iff.rfl⟩, ?_, ?_⟩⟩
  · have := lt1 k e1; have := ge2 k e2; omega
  · rintro k (e | e) hf
    · have := ge1 k e; have := h2.lt k hf; omega
    · have := ge2 k e; have := h2.lt k hf; omega
  · have := h4.size
    rintro k (e | e)
    · have := ge1 k e; omega
    · have := ge2 k e; omega
end
/-- a slice of Do's that came in -/
def DosIn (w : World) (a0 : Option Addr) (len : Nat) (O N : Nat → Int) (A : Nat → Option Addr) (C : Nat → Nat) (Z : Nat → List Int) : Prop :=
  ∀ i, i < len → ∃ b o, a0 = some ⟨b, o, none⟩ ∧ w.cell? ⟨b, o + i * 3, none⟩ = some (.int .i64 (O i)) ∧ w.cell? ⟨b, o + i * 3 + 1, none⟩ = some (.int .i64 (N i)) ∧ w.cell? ⟨b, o + i * 3 + 2, none⟩ = some (.slice (A i) (Z i).length (C i)) ∧
    Lib.BytesIn w (A i) (Z i).length (Z i) ∧ (Z i).length ≤ 140737488355328 ∧ N i ≤ 9223372036854775807
theorem DosIn.below {w w' : World} {a0 : Option Addr} {len : Nat} {O N : Nat → Int} {A : Nat → Option Addr} {C : Nat → Nat} {Z : Nat → List Int} (h : DosIn w a0 len O N A C Z) (hb : Below w.heap.size w w') : DosIn w' a0 len O N A C Z := fun i hi => by
  obtain ⟨b, o, h1, h2, h3, h4, h5, h6, h7⟩ := h i hi
  exact ⟨b, o, h1, (hb.cell (p := ⟨b, _, none⟩) (cell_lt h2)).trans h2, (hb.cell (p := ⟨b, _, none⟩) (cell_lt h3)).trans h3, (hb.cell (p := ⟨b, _, none⟩) (cell_lt h4)).trans h4, bytes_keep h5 (Keep.of_below (X := fun _ => False) hb) (fun _ _ _ h => h), h6, h7⟩
end Go.Proofs.Ytfeljjbelnlojaa
