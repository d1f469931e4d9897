/- A tape and the document's tape, side by side in memory (layer 15). -/
import Derived.Test.YtfeljjbelnlojaaRefTapeB
import Derived.Test.YtfeljjbelnlojaaTapeStays
namespace Go.Proofs.Ytfeljjbelnlojaa
open Go Go.RowKit
set_option linter.unusedSimpArgs false
set_option linter.unusedVariables false

/-- what a tape has -/
structure TS where
  xs : List Int
  sy : Int
  ro : Int
  fu : Int
/-- within bounds -/
def TS.ok (a : TS) : Prop := a.xs.length ≤ 16777216 ∧ 0 ≤ a.sy ∧ a.sy ≤ a.xs.length ∧ 0 ≤ a.ro ∧ a.ro ≤ 16777216 ∧ -1 ≤ a.fu ∧ a.fu ≤ 9223372036854775807
/-- a tape with what a says, the document's with what b says; their blocks -/
def Two (F : Nat → Prop) (w : World) (p r : Nat) (a b : TS) : Prop :=
  ∃ o o', TapeAt w p a.xs a.sy a.ro a.fu o ∧ RefAt w r b.xs b.sy b.ro b.fu o' ∧ (∀ k, foot p o k → ¬ foot r o' k) ∧ (∀ k, F k ↔ (foot p o k ∨ foot r o' k))
theorem RefAt.keep {X : Nat → Prop} {w w' : World} {p : Nat} {xs : List Int} {sy ro fu : Int} {o : Option Nat} (h : RefAt w p xs sy ro fu o) (hk : Keep X w w') (hn : ∀ k, foot p o k → ¬ X k) : RefAt w' p xs sy ro fu o := by
  obtain ⟨v, h1, h2, h3⟩ := h
  exact ⟨v, hk.blk h1 (hn p (.inl rfl)), h2.keep hk (fun g hg => hn g (.inr hg)), h3⟩
theorem RefAt.lt {w : World} {p : Nat} {xs : List Int} {sy ro fu : Int} {o : Option Nat} (h : RefAt w p xs sy ro fu o) : ∀ k, foot p o k → k < w.heap.size := by
  obtain ⟨v, h1, h2, h3⟩ := h
  rintro k (rfl | hk)
  · exact h1.lt
  · exact h2.lt k hk
section
variable {F X : Nat → Prop} {w w' : World} {p r : Nat} {a b a' b' : TS}
theorem Two.lt (h : Two F w p r a b) : ∀ k, F k → k < w.heap.size := by
  obtain ⟨o, o', h1, h2, h3, h4⟩ := h
  intro k hk
  rcases (h4 k).1 hk with h | h
  · exact h1.lt k h
  · exact h2.lt k h
theorem Two.keep (h : Two F w p r a b) (hk : Keep X w w') (hx : ∀ k, F k → ¬ X k) : Two F w' p r a b := by
  obtain ⟨o, o', h1, h2, h3, h4⟩ := h
  exact ⟨o, o', h1.keep hk (fun k e => hx k ((h4 k).2 (.inl e))), h2.keep hk (fun k e => hx k ((h4 k).2 (.inr e))), h3, h4⟩
theorem Two.more (h : Two F w p r a b) (hb : Below w.heap.size w w') : Two F w' p r a b := h.keep (X := fun _ => False) (Keep.of_below hb) (fun _ _ h => h)
/-- a call on the tape -/
theorem Two.tape {o o1 : Option Nat} {o' : Option Nat} (h2 : RefAt w r b.xs b.sy b.ro b.fu o') (h1 : TapeAt w p a.xs a.sy a.ro a.fu o) (h3 : ∀ k, foot p o k → ¬ foot r o' k) (h4 : ∀ k, F k ↔ (foot p o k ∨ foot r o' k))
    (ht : TapeAt w' p a'.xs a'.sy a'.ro a'.fu o1) (ho : o1 = o ∨ ∃ g, o1 = some g ∧ w.heap.size ≤ g) (hk : Keep (foot p o) w w') :
    ∃ F', Two F' w' p r a' b ∧ Keep F w w' ∧ (∀ k, F' k → F k ∨ w.heap.size ≤ k) := by
  have hf : ∀ k, foot p o1 k → foot p o k ∨ w.heap.size ≤ k := by
    rintro k (rfl | e)
    · exact .inl (.inl rfl)
    · rcases ho with rfl | ⟨g, rfl, hg⟩
      · exact .inl (.inr e)
      · cases e; exact .inr hg
  refine ⟨fun k => foot p o1 k ∨ foot r o' k, ⟨o1, o', ht, h2.keep hk (fun k e hp => h3 k hp e), ?_, fun k => Iff.rfl⟩, hk.mono (fun k e => (h4 k).2 (.inl e)), ?_⟩
  · intro k e1 e2
    rcases hf k e1 with h | h
    · exact h3 k h e2
    · have := h2.lt k e2; omega
  · rintro k (e | e)
    · exact (hf k e).imp (fun h => (h4 k).2 (.inl h)) id
    · exact .inl ((h4 k).2 (.inr e))
/-- a call on the document's -/
theorem Two.ref {o o1 : Option Nat} {o' : Option Nat} (h2 : RefAt w r b.xs b.sy b.ro b.fu o') (h1 : TapeAt w p a.xs a.sy a.ro a.fu o) (h3 : ∀ k, foot p o k → ¬ foot r o' k) (h4 : ∀ k, F k ↔ (foot p o k ∨ foot r o' k))
    (ht : RefAt w' r b'.xs b'.sy b'.ro b'.fu o1) (ho : o1 = o' ∨ ∃ g, o1 = some g ∧ w.heap.size ≤ g) (hk : Keep (foot r o') w w') :
    ∃ F', Two F' w' p r a b' ∧ Keep F w w' ∧ (∀ k, F' k → F k ∨ w.heap.size ≤ k) := by
  have hf : ∀ k, foot r o1 k → foot r o' k ∨ w.heap.size ≤ k := by
    rintro k (rfl | e)
    · exact .inl (.inl rfl)
    · rcases ho with rfl | ⟨g, rfl, hg⟩
      · exact .inl (.inr e)
      · cases e; exact .inr hg
  refine ⟨fun k => foot p o k ∨ foot r o1 k, ⟨o, o1, h1.keep hk (fun k e hp => h3 k e hp), ht, ?_, fun k => Iff.rfl⟩, hk.mono (fun k e => (h4 k).2 (.inr e)), ?_⟩
  · intro k e1 e2
    rcases hf k e2 with h | h
    · exact h3 k e1 h
    · have := h1.lt k e1; omega
  · rintro k (e | e)
    · exact .inl ((h4 k).2 (.inl e))
    · exact (hf k e).imp (fun h => (h4 k).2 (.inr h)) id
/-- what a call leaves -/
def Left (F : Nat → Prop) (w w' : World) (p r : Nat) (a b : TS) : Prop := ∃ F', Two F' w' p r a b ∧ Keep F w w' ∧ (∀ k, F' k → F k ∨ w.heap.size ≤ k)
theorem Left.trans {F F1 : Nat → Prop} {w w1 w2 : World} {p r : Nat} {a b : TS} (h1 : Keep F w w1) (h2 : ∀ k, F1 k → F k ∨ w.heap.size ≤ k) (h : Left F1 w1 w2 p r a b) : Left F w w2 p r a b := by
  obtain ⟨F2, t, k, hf⟩ := h
  refine ⟨F2, t, h1.trans' k h2, fun j hj => ?_⟩
  rcases hf j hj with h | h
  · exact h2 j h
  · exact .inr (Nat.le_trans h1.size h)
end
section
variable {F : Nat → Prop} {w : World} {p r : Nat} {a b : TS}
theorem p_sync (h : Two F w p r a b) (ha : a.ok) : Calls Try.prog 12 #[.pointer (some ⟨p, 0, none⟩)] w fun e w' => e = .returned (.int .i64 (burnE a.fu)) ∧ Left F w w' p r ⟨a.xs, syncN a.xs a.sy a.fu, a.ro, burn a.fu⟩ b := by
  obtain ⟨o, o', h1, h2, h3, h4⟩ := h
  refine (tsync p a.xs a.sy a.ro a.fu o w h1 ha.2.2.2.2.2.1 ha.2.2.2.2.2.2).mono fun e w' ⟨he, ht, hk⟩ => ⟨he, Two.tape h2 h1 h3 h4 ht (.inl rfl) hk⟩
theorem q_sync (h : Two F w p r a b) (hb : b.ok) : Calls Try.prog 29 #[.pointer (some ⟨r, 0, none⟩)] w fun e w' => e = .returned (.int .i64 (burnE b.fu)) ∧ Left F w w' p r a ⟨b.xs, syncN b.xs b.sy b.fu, b.ro, burn b.fu⟩ := by
  obtain ⟨o, o', h1, h2, h3, h4⟩ := h
  refine (rsync r b.xs b.sy b.ro b.fu o' w h2 hb.2.2.2.2.2.1 hb.2.2.2.2.2.2).mono fun e w' ⟨he, ht, hk⟩ => ⟨he, Two.ref h2 h1 h3 h4 ht (.inl rfl) hk⟩
theorem p_fuse (n : Int) (h : Two F w p r a b) : Calls Try.prog 17 #[.pointer (some ⟨p, 0, none⟩), .int .i64 n] w fun e w' => e = .returned (.int .i64 (fuseE n)) ∧ Left F w w' p r ⟨a.xs, a.sy, a.ro, fuseN n a.fu⟩ b := by
  obtain ⟨o, o', h1, h2, h3, h4⟩ := h
  refine (tfuse p a.xs a.sy a.ro a.fu n o w h1).mono fun e w' ⟨he, ht, hk⟩ => ⟨he, Two.tape h2 h1 h3 h4 ht (.inl rfl) hk⟩
theorem q_fuse (n : Int) (h : Two F w p r a b) : Calls Try.prog 31 #[.pointer (some ⟨r, 0, none⟩), .int .i64 n] w fun e w' => e = .returned (.int .i64 (fuseE n)) ∧ Left F w w' p r a ⟨b.xs, b.sy, b.ro, fuseN n b.fu⟩ := by
  obtain ⟨o, o', h1, h2, h3, h4⟩ := h
  refine (rfuse r b.xs b.sy b.ro b.fu n o' w h2).mono fun e w' ⟨he, ht, hk⟩ => ⟨he, Two.ref h2 h1 h3 h4 ht (.inl rfl) hk⟩
theorem p_room (n : Int) (h : Two F w p r a b) : Calls Try.prog 11 #[.pointer (some ⟨p, 0, none⟩), .int .i64 n] w fun e w' => e = .returned (.int .i64 (roomE n)) ∧ Left F w w' p r ⟨a.xs, a.sy, roomN n a.ro, a.fu⟩ b := by
  obtain ⟨o, o', h1, h2, h3, h4⟩ := h
  refine (troom p a.xs a.sy a.ro a.fu n o w h1).mono fun e w' ⟨he, ht, hk⟩ => ⟨he, Two.tape h2 h1 h3 h4 ht (.inl rfl) hk⟩
theorem q_room (n : Int) (h : Two F w p r a b) : Calls Try.prog 32 #[.pointer (some ⟨r, 0, none⟩), .int .i64 n] w fun e w' => e = .returned (.int .i64 (roomE n)) ∧ Left F w w' p r a ⟨b.xs, b.sy, roomN n b.ro, b.fu⟩ := by
  obtain ⟨o, o', h1, h2, h3, h4⟩ := h
  refine (rroom r b.xs b.sy b.ro b.fu n o' w h2).mono fun e w' ⟨he, ht, hk⟩ => ⟨he, Two.ref h2 h1 h3 h4 ht (.inl rfl) hk⟩
theorem p_cut (n : Int) (h : Two F w p r a b) (ha : a.ok) : Calls Try.prog 18 #[.pointer (some ⟨p, 0, none⟩), .int .i64 n] w fun e w' => e = .returned (.int .i64 (cutE n a.xs.length a.fu)) ∧ Left F w w' p r ⟨cutB a.xs n a.fu, cutS a.xs a.sy n a.fu, a.ro, cutF a.xs.length n a.fu⟩ b := by
  obtain ⟨o, o', h1, h2, h3, h4⟩ := h
  refine (tcut p a.xs a.sy a.ro a.fu n o w h1 ha.1 ha.2.2.2.2.2.1 ha.2.2.2.2.2.2).mono fun e w' ⟨he, ht, hk⟩ => ⟨he, Two.tape h2 h1 h3 h4 ht (.inl rfl) hk⟩
theorem q_cut (n : Int) (h : Two F w p r a b) (hb : b.ok) : Calls Try.prog 30 #[.pointer (some ⟨r, 0, none⟩), .int .i64 n] w fun e w' => e = .returned (.int .i64 (cutE n b.xs.length b.fu)) ∧ Left F w w' p r a ⟨cutB b.xs n b.fu, cutS b.xs b.sy n b.fu, b.ro, cutF b.xs.length n b.fu⟩ := by
  obtain ⟨o, o', h1, h2, h3, h4⟩ := h
  refine (rcut r b.xs b.sy b.ro b.fu n o' w h2 hb.1 hb.2.2.2.2.2.1 hb.2.2.2.2.2.2).mono fun e w' ⟨he, ⟨o1, ht, ho⟩, hk⟩ => ⟨he, Two.ref h2 h1 h3 h4 ht ho hk⟩
theorem p_crash (n : Int) (h : Two F w p r a b) (ha : a.ok) : Calls Try.prog 14 #[.pointer (some ⟨p, 0, none⟩), .int .i64 n] w fun e w' => e = .returned (.int .i64 0) ∧ Left F w w' p r ⟨a.xs.take (crashN a.xs.length a.sy n), crashN a.xs.length a.sy n, a.ro, -1⟩ b := by
  obtain ⟨o, o', h1, h2, h3, h4⟩ := h
  refine (tcrash p a.xs a.sy a.ro a.fu n o w h1 ha.1 ha.2.1 ha.2.2.1).mono fun e w' ⟨he, ht, hk⟩ => ⟨he, Two.tape h2 h1 h3 h4 ht (.inl rfl) hk⟩
theorem q_crash (n : Int) (h : Two F w p r a b) (hb : b.ok) : Calls Try.prog 33 #[.pointer (some ⟨r, 0, none⟩), .int .i64 n] w fun e w' => e = .returned (.tuple #[]) ∧ Left F w w' p r a ⟨b.xs.take (crashN b.xs.length b.sy n), crashN b.xs.length b.sy n, b.ro, -1⟩ := by
  obtain ⟨o, o', h1, h2, h3, h4⟩ := h
  refine (rcrash r b.xs b.sy b.ro b.fu n o' w h2 hb.1 hb.2.1 hb.2.2.1).mono fun e w' ⟨he, ⟨o1, ht, ho⟩, hk⟩ => ⟨he, Two.ref h2 h1 h3 h4 ht ho hk⟩
theorem p_append {ys : List Int} (q : Option Addr) (c : Nat) (h : Two F w p r a b) (ha : a.ok) (hy : Lib.BytesIn w q ys.length ys) (hyl : ys.length ≤ 9223372036854775807) (hq : 0 < ys.length → ∀ d, q = some d → ¬ F d.block) :
    Calls Try.prog 9 #[.pointer (some ⟨p, 0, none⟩), .slice q ys.length c] w fun e w' => e = .returned (.int .i64 (appE a.xs.length ys.length a.ro a.fu)) ∧ Left F w w' p r ⟨appB a.xs ys a.ro a.fu, a.sy, a.ro, burn a.fu⟩ b := by
  obtain ⟨o, o', h1, h2, h3, h4⟩ := h
  refine (tappend p a.xs ys a.sy a.ro a.fu o q c w h1 hy (fun h0 d hd e => hq h0 d hd ((h4 _).2 (.inl e))) ha.1 hyl ha.2.2.2.1 ha.2.2.2.2.1 ha.2.2.2.2.2.1 ha.2.2.2.2.2.2).mono fun e w' ⟨he, ⟨o1, ht, ho⟩, hk⟩ => ⟨he, Two.tape h2 h1 h3 h4 ht ho hk⟩
theorem q_append {ys : List Int} (q : Option Addr) (c : Nat) (h : Two F w p r a b) (hb : b.ok) (hy : Lib.BytesIn w q ys.length ys) (hyl : ys.length ≤ 9223372036854775807) (hq : 0 < ys.length → ∀ d, q = some d → ¬ F d.block) :
    Calls Try.prog 25 #[.pointer (some ⟨r, 0, none⟩), .slice q ys.length c] w fun e w' => e = .returned (.int .i64 (appE b.xs.length ys.length b.ro b.fu)) ∧ Left F w w' p r a ⟨appB b.xs ys b.ro b.fu, b.sy, b.ro, burn b.fu⟩ := by
  obtain ⟨o, o', h1, h2, h3, h4⟩ := h
  refine (rappend r b.xs ys b.sy b.ro b.fu o' q c w h2 hy (fun h0 d hd e => hq h0 d hd ((h4 _).2 (.inr e))) hb.1 hyl hb.2.2.2.1 hb.2.2.2.2.1 hb.2.2.2.2.2.1 hb.2.2.2.2.2.2).mono fun e w' ⟨he, ⟨o1, ht, ho⟩, hk⟩ => ⟨he, Two.ref h2 h1 h3 h4 ht ho hk⟩
end
/-! ### what each call leaves is within bounds -/
theorem ok_burn {fu : Int} (h0 : -1 ≤ fu) (h1 : fu ≤ 9223372036854775807) : -1 ≤ burn fu ∧ burn fu ≤ 9223372036854775807 := by unfold burn; split <;> omega
theorem ok_sync {a : TS} (h : a.ok) : TS.ok ⟨a.xs, syncN a.xs a.sy a.fu, a.ro, burn a.fu⟩ := by
  obtain ⟨h1, h2, h3, h4, h5, h6, h7⟩ := h
  have hb := ok_burn h6 h7
  refine ⟨h1, ?_, ?_, h4, h5, hb.1, hb.2⟩ <;> (simp only [syncN]; split <;> omega)
theorem ok_fuse {a : TS} {n : Int} (h : a.ok) (hn : n ≤ 9223372036854775807) : TS.ok ⟨a.xs, a.sy, a.ro, fuseN n a.fu⟩ := by
  obtain ⟨h1, h2, h3, h4, h5, h6, h7⟩ := h
  refine ⟨h1, h2, h3, h4, h5, ?_, ?_⟩ <;> (simp only [fuseN]; split <;> omega)
theorem ok_room {a : TS} {n : Int} (h : a.ok) : TS.ok ⟨a.xs, a.sy, roomN n a.ro, a.fu⟩ := by
  obtain ⟨h1, h2, h3, h4, h5, h6, h7⟩ := h
  refine ⟨h1, h2, h3, ?_, ?_, h6, h7⟩ <;> (simp only [roomN]; split <;> omega)
theorem ok_cut {a : TS} {n : Int} (h : a.ok) : TS.ok ⟨cutB a.xs n a.fu, cutS a.xs a.sy n a.fu, a.ro, cutF a.xs.length n a.fu⟩ := by
  obtain ⟨h1, h2, h3, h4, h5, h6, h7⟩ := h
  have hb := ok_burn h6 h7
  refine ⟨?_, ?_, ?_, h4, h5, ?_, ?_⟩ <;> simp only [cutB, cutS, cutF] <;> (repeat' split) <;> (try simp only [List.length_take]) <;> omega
theorem ok_crash {a : TS} {n : Int} (h : a.ok) : TS.ok ⟨a.xs.take (crashN a.xs.length a.sy n), crashN a.xs.length a.sy n, a.ro, -1⟩ := by
  obtain ⟨h1, h2, h3, h4, h5, h6, h7⟩ := h
  obtain ⟨k1, k2, k3⟩ := crashN_le a.xs.length a.sy n h2 h3
  refine ⟨?_, ?_, ?_, h4, h5, (show (-1 : Int) ≤ -1 from by omega), (show (-1 : Int) ≤ 9223372036854775807 from by omega)⟩ <;> (try simp only [List.length_take]) <;> omega
theorem ok_append {a : TS} {ys : List Int} (h : a.ok) : TS.ok ⟨appB a.xs ys a.ro a.fu, a.sy, a.ro, burn a.fu⟩ := by
  obtain ⟨h1, h2, h3, h4, h5, h6, h7⟩ := h
  have hb := ok_burn h6 h7
  refine ⟨?_, h2, ?_, h4, h5, hb.1, hb.2⟩ <;> simp only [appB] <;> (repeat' split) <;> (try simp only [List.length_append]) <;> omega
end Go.Proofs.Ytfeljjbelnlojaa
