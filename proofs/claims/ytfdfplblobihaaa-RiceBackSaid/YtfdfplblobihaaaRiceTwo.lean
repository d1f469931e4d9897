/- The two writers side by side. -/
import Derived.Test.YtfdfplblobihaaaRiceWC
namespace Go.Proofs.Ytfdfplblobihaaa
open Go Go.RowKit
set_option linter.unusedSimpArgs false

/-- the program's writer at p has the bits l, the document's at r the bits m; F: their blocks -/
def Two (w : World) (p r : Nat) (l m : List Bool) (F : Nat → Prop) : Prop := ∃ o o2, WAt w p l o ∧ RAt w r m o2 ∧ (∀ k, foot p o k → ¬ foot r o2 k) ∧ (∀ k, F k ↔ foot p o k ∨ foot r o2 k)
/-- what a call leaves -/
def Left2 (F : Nat → Prop) (w w' : World) (p r : Nat) (l m : List Bool) : Prop := ∃ F', Two w' p r l m F' ∧ Keep F w w' ∧ (∀ k, F' k → F k ∨ w.heap.size ≤ k)
section
variable {w w' : World} {p r : Nat} {l m : List Bool} {F : Nat → Prop} {o : Option Nat}
theorem WAt.keep {X : Nat → Prop} (h : WAt w p l o) (hk : Keep X w w') (hn : ∀ k, foot p o k → ¬ X k) : WAt w' p l o := by
  obtain ⟨v, h1, h2, h3⟩ := h
  exact ⟨v, hk.blk h1 (hn p (.inl rfl)), h2.keep hk (fun g hg => hn g (.inr hg)), h3⟩
theorem RAt.keep {X : Nat → Prop} (h : RAt w p l o) (hk : Keep X w w') (hn : ∀ k, foot p o k → ¬ X k) : RAt w' p l o := by
  obtain ⟨v, h1, h2, h3⟩ := h
  exact ⟨v, hk.blk h1 (hn p (.inl rfl)), h2.keep hk (fun g hg => hn g (.inr hg)), h3⟩
theorem WAt.lt (h : WAt w p l o) : ∀ k, foot p o k → k < w.heap.size := by
  obtain ⟨v, h1, h2, h3⟩ := h
  rintro k (rfl | e)
  · exact h1.lt
  · exact h2.lt k e
theorem RAt.lt (h : RAt w p l o) : ∀ k, foot p o k → k < w.heap.size := by
  obtain ⟨v, h1, h2, h3⟩ := h
  rintro k (rfl | e)
  · exact h1.lt
  · exact h2.lt k e
theorem Two.lt (h : Two w p r l m F) : ∀ k, F k → k < w.heap.size := by
  obtain ⟨o, o2, h1, h2, h3, h4⟩ := h
  intro k hk
  rcases (h4 k).1 hk with e | e
  · exact h1.lt k e
  · exact h2.lt k e
theorem Two.keep {X : Nat → Prop} (h : Two w p r l m F) (hk : Keep X w w') (hn : ∀ k, F k → ¬ X k) : Two w' p r l m F := by
  obtain ⟨o, o2, h1, h2, h3, h4⟩ := h
  exact ⟨o, o2, h1.keep hk (fun k e => hn k ((h4 k).2 (.inl e))), h2.keep hk (fun k e => hn k ((h4 k).2 (.inr e))), h3, h4⟩
theorem Two.below (h : Two w p r l m F) (hk : Below w.heap.size w w') : Two w' p r l m F := h.keep (X := fun _ => False) (Keep.of_below hk) (fun _ _ h => h)
theorem Two.wr (h : Two w p r l m F) : ∃ o, WAt w p l o ∧ ∀ w' l', Grew w w' p l' o → Left2 F w w' p r l' m := by
  obtain ⟨o, o2, h1, h2, h3, h4⟩ := h
  have l2 := h2.lt
  refine ⟨o, h1, fun w' l' g => ?_⟩
  obtain ⟨o', g1, g2, g3⟩ := g
  refine ⟨fun k => foot p o' k ∨ foot r o2 k, ⟨o', o2, g1, h2.keep g3 (fun k e1 e2 => h3 k e2 e1), ?_, fun k => Iff.rfl⟩, g3.mono fun k e => (h4 k).2 (.inl e), ?_⟩
  · rintro k (e | e) e2
    · exact h3 k (.inl e) e2
    · rcases g2 k e with e' | e'
      · exact h3 k (.inr e') e2
      · have := l2 k e2; omega
  · rintro k ((e | e) | e)
    · exact .inl ((h4 k).2 (.inl (.inl e)))
    · exact (g2 k e).imp (fun e => (h4 k).2 (.inl (.inr e))) id
    · exact .inl ((h4 k).2 (.inr e))
theorem Two.rf (h : Two w p r l m F) : ∃ o, RAt w r m o ∧ ∀ w' m', RGrew w w' r m' o → Left2 F w w' p r l m' := by
  obtain ⟨o, o2, h1, h2, h3, h4⟩ := h
  have l1 := h1.lt
  refine ⟨o2, h2, fun w' m' g => ?_⟩
  obtain ⟨o', g1, g2, g3⟩ := g
  refine ⟨fun k => foot p o k ∨ foot r o' k, ⟨o, o', h1.keep g3 (fun k e1 e2 => h3 k e1 e2), g1, ?_, fun k => Iff.rfl⟩, g3.mono fun k e => (h4 k).2 (.inr e), ?_⟩
  · rintro k e2 (e | e)
    · exact h3 k e2 (.inl e)
    · rcases g2 k e with e' | e'
      · exact h3 k e2 (.inr e')
      · have := l1 k e2; omega
  · rintro k (e | e | e)
    · exact .inl ((h4 k).2 (.inl e))
    · exact .inl ((h4 k).2 (.inr (.inl e)))
    · exact (g2 k e).imp (fun e => (h4 k).2 (.inr (.inr e))) id
theorem p_bit (b : Bool) (h : Two w p r l m F) (hl : l.length ≤ 1099511000000) : Calls Try.prog 8 #[.pointer (some ⟨p, 0, none⟩), .bool b] w fun e w' => e = .returned (.int .i64 0) ∧ Left2 F w w' p r (l ++ [b]) m := by
  obtain ⟨o, h1, h2⟩ := h.wr
  exact (cbit p l b o w h1 (by omega)).mono fun e w' ⟨e1, e2⟩ => ⟨e1, h2 _ _ e2⟩
theorem p_bits (n : Nat) (c : Int) (h : Two w p r l m F) (hl : l.length ≤ 1099511000000) (hn : n < 18446744073709551616) : Calls Try.prog 10 #[.pointer (some ⟨p, 0, none⟩), .int .u64 (n : Int), .int .i64 c] w fun e w' => e = .returned (.int .i64 (bitsE c)) ∧ Left2 F w w' p r (bitsL l n c) m := by
  obtain ⟨o, h1, h2⟩ := h.wr
  exact (cbits p l n c o w h1 (by omega) hn).mono fun e w' ⟨e1, e2⟩ => ⟨e1, h2 _ _ e2⟩
theorem p_rice (n : Nat) (c : Int) (h : Two w p r l m F) (hl : l.length ≤ 1099511000000) (hn : n < 18446744073709551616) : Calls Try.prog 12 #[.pointer (some ⟨p, 0, none⟩), .int .u64 (n : Int), .int .i64 c] w fun e w' => e = .returned (.int .i64 (riceE n c)) ∧ Left2 F w w' p r (riceL l n c) m := by
  obtain ⟨o, h1, h2⟩ := h.wr
  exact (crice p l n c o w h1 (by omega) hn).mono fun e w' ⟨e1, e2⟩ => ⟨e1, h2 _ _ e2⟩
theorem q_bit (b : Bool) (h : Two w p r l m F) (hl : m.length ≤ 1099511000000) : Calls Try.prog 9 #[.pointer (some ⟨r, 0, none⟩), .bool b] w fun e w' => e = .returned (.tuple #[]) ∧ Left2 F w w' p r l (m ++ [b]) := by
  obtain ⟨o, h1, h2⟩ := h.rf
  exact (rbit r m b o w h1 (by omega)).mono fun e w' ⟨e1, e2⟩ => ⟨e1, h2 _ _ e2⟩
theorem q_bits (n : Nat) (c : Int) (h : Two w p r l m F) (hl : m.length ≤ 1099511000000) (hn : n < 18446744073709551616) : Calls Try.prog 11 #[.pointer (some ⟨r, 0, none⟩), .int .u64 (n : Int), .int .i64 c] w fun e w' => e = .returned (.int .i64 (bitsE c)) ∧ Left2 F w w' p r l (bitsL m n c) := by
  obtain ⟨o, h1, h2⟩ := h.rf
  exact (rbits r m n c o w h1 (by omega) hn).mono fun e w' ⟨e1, e2⟩ => ⟨e1, h2 _ _ e2⟩
theorem q_rice (n : Nat) (c : Int) (h : Two w p r l m F) (hl : m.length ≤ 1099511000000) (hn : n < 18446744073709551616) : Calls Try.prog 13 #[.pointer (some ⟨r, 0, none⟩), .int .u64 (n : Int), .int .i64 c] w fun e w' => e = .returned (.int .i64 (riceE n c)) ∧ Left2 F w w' p r l (riceL m n c) := by
  obtain ⟨o, h1, h2⟩ := h.rf
  exact (rrice r m n c o w h1 (by omega) hn).mono fun e w' ⟨e1, e2⟩ => ⟨e1, h2 _ _ e2⟩
theorem Left2.trans {G : Nat → Prop} {w1 w2 : World} (hk : Keep F w w1) (hs : ∀ k, G k → F k ∨ w.heap.size ≤ k) (h : Left2 G w1 w2 p r l m) : Left2 F w w2 p r l m := by
  obtain ⟨F', h1, h2, h3⟩ := h
  refine ⟨F', h1, hk.trans' h2 hs, fun k e => ?_⟩
  rcases h3 k e with e | e
  · exact hs k e
  · exact .inr (Nat.le_trans hk.size e)
/-- how many bits a call adds -/
theorem bitsL_len (l : List Bool) (n : Nat) (c : Int) : (bitsL l n c).length ≤ l.length + 64 := by
  unfold bitsL; split
  · omega
  · simp [bitsOf_length]; omega
theorem riceL_len (l : List Bool) (n : Nat) (c : Int) : (riceL l n c).length ≤ l.length + 65568 := by
  unfold riceL; split
  · omega
  · simp [bitsOf_length]; omega
end
end Go.Proofs.Ytfdfplblobihaaa
