/- The tape's methods on a tape that the law itself made. -/
import Derived.Test.YtfeljjbelnlojaaTapeFull
namespace Go.Proofs.Ytfeljjbelnlojaa
open Go Go.RowKit
set_option linter.unusedSimpArgs false

/-- a tape that the call made, W being the world in which the call began -/
def Own (W w : World) (p : Nat) (xs : List Int) (sy ro fu : Int) : Prop :=
  ∃ o, TapeAt w p xs sy ro fu o ∧ W.heap.size ≤ p ∧ (∀ g, o = some g → W.heap.size ≤ g) ∧ Below W.heap.size W w
section
variable {W w w' : World} {p : Nat} {xs : List Int} {sy ro fu : Int}
theorem Own.below (h : Own W w p xs sy ro fu) : Below W.heap.size W w := by obtain ⟨o, _, _, _, h⟩ := h; exact h
theorem Own.more (h : Own W w p xs sy ro fu) (hb : Below w.heap.size w w') : Own W w' p xs sy ro fu := by
  obtain ⟨o, h1, h2, h3, h4⟩ := h
  exact ⟨o, h1.keep (Keep.of_below (X := fun _ => False) hb) (fun _ _ h => h), h2, h3, h4.trans (hb.mono h4.size)⟩
theorem foot_ge {o : Option Nat} (h2 : W.heap.size ≤ p) (h3 : ∀ g, o = some g → W.heap.size ≤ g) : ∀ k, foot p o k → W.heap.size ≤ k := by
  rintro k (rfl | hk)
  · exact h2
  · exact h3 k hk
theorem own_new (W w : World) (ro : Int) (hb : Below W.heap.size W w) (h0 : 0 ≤ ro) (h1 : ro ≤ 16777216) :
    Calls Try.prog 8 #[.int .i64 ro] w fun e w' => ∃ p, e = .returned (.tuple #[.pointer (some ⟨p, 0, none⟩), .int .i64 0]) ∧ Own W w' p [] 0 ro (-1) := by
  refine (tnew ro w h0 h1).mono ?_
  rintro e w1 ⟨p, o, rfl, ht, hp, ho, hb1⟩
  have := hb.size
  exact ⟨p, rfl, o, ht, by omega, fun g hg => by have := ho g hg; omega, hb.trans (hb1.mono hb.size)⟩
theorem own_synced (h : Own W w p xs sy ro fu) : Calls Try.prog 13 #[.pointer (some ⟨p, 0, none⟩)] w fun e w' => e = .returned (.int .i64 sy) ∧ w = w' := by
  obtain ⟨o, h1, h2, h3, h4⟩ := h
  exact tsynced p xs sy ro fu o w h1
theorem own_bytes (h : Own W w p xs sy ro fu) (hl : xs.length ≤ 140737488355328) :
    Calls Try.prog 10 #[.pointer (some ⟨p, 0, none⟩)] w fun e w' => ∃ q c, e = .returned (.slice q xs.length c) ∧ (∃ o', Row w' 5 (.slice q xs.length c) xs o' ∧ ∀ g, o' = some g → w.heap.size ≤ g) ∧ Own W w' p xs sy ro fu ∧ Below w.heap.size w w' := by
  have h' := h
  obtain ⟨o, h1, h2, h3, h4⟩ := h
  refine (tbytes p xs sy ro fu o w h1 hl).mono ?_
  rintro e w1 ⟨q, c, o', rfl, hr, ho, hb⟩
  exact ⟨q, c, rfl, ⟨o', hr, ho⟩, h'.more hb, hb⟩
theorem own_of {o : Option Nat} {ys : List Int} {sy' ro' fu' : Int} (h2 : W.heap.size ≤ p) (h3 : ∀ g, o = some g → W.heap.size ≤ g) (h4 : Below W.heap.size W w) (ht : TapeAt w' p ys sy' ro' fu' o) (hk : Keep (foot p o) w w') : Own W w' p ys sy' ro' fu' :=
  ⟨o, ht, h2, h3, h4.trans (hk.below h4.size (foot_ge h2 h3))⟩
theorem own_fuse (n : Int) (h : Own W w p xs sy ro fu) : Calls Try.prog 17 #[.pointer (some ⟨p, 0, none⟩), .int .i64 n] w fun e w' => e = .returned (.int .i64 (fuseE n)) ∧ Own W w' p xs sy ro (fuseN n fu) := by
  obtain ⟨o, h1, h2, h3, h4⟩ := h
  refine (tfuse p xs sy ro fu n o w h1).mono ?_
  rintro e w1 ⟨rfl, ht, hk⟩
  exact ⟨rfl, own_of h2 h3 h4 ht hk⟩
theorem own_room (n : Int) (h : Own W w p xs sy ro fu) : Calls Try.prog 11 #[.pointer (some ⟨p, 0, none⟩), .int .i64 n] w fun e w' => e = .returned (.int .i64 (roomE n)) ∧ Own W w' p xs sy (roomN n ro) fu := by
  obtain ⟨o, h1, h2, h3, h4⟩ := h
  refine (troom p xs sy ro fu n o w h1).mono ?_
  rintro e w1 ⟨rfl, ht, hk⟩
  exact ⟨rfl, own_of h2 h3 h4 ht hk⟩
theorem own_sync (h : Own W w p xs sy ro fu) (hf0 : -1 ≤ fu) (hf1 : fu ≤ 9223372036854775807) : Calls Try.prog 12 #[.pointer (some ⟨p, 0, none⟩)] w fun e w' => e = .returned (.int .i64 (burnE fu)) ∧ Own W w' p xs (syncN xs sy fu) ro (burn fu) := by
  obtain ⟨o, h1, h2, h3, h4⟩ := h
  refine (tsync p xs sy ro fu o w h1 hf0 hf1).mono ?_
  rintro e w1 ⟨rfl, ht, hk⟩
  exact ⟨rfl, own_of h2 h3 h4 ht hk⟩
theorem own_cut (n : Int) (h : Own W w p xs sy ro fu) (hl : xs.length ≤ 16777216) (hf0 : -1 ≤ fu) (hf1 : fu ≤ 9223372036854775807) :
    Calls Try.prog 18 #[.pointer (some ⟨p, 0, none⟩), .int .i64 n] w fun e w' => e = .returned (.int .i64 (cutE n xs.length fu)) ∧ Own W w' p (cutB xs n fu) (cutS xs sy n fu) ro (cutF xs.length n fu) := by
  obtain ⟨o, h1, h2, h3, h4⟩ := h
  refine (tcut p xs sy ro fu n o w h1 hl hf0 hf1).mono ?_
  rintro e w1 ⟨rfl, ht, hk⟩
  exact ⟨rfl, own_of h2 h3 h4 ht hk⟩
theorem own_crash (n : Int) (h : Own W w p xs sy ro fu) (hl : xs.length ≤ 16777216) (hs0 : 0 ≤ sy) (hs1 : sy ≤ xs.length) :
    Calls Try.prog 14 #[.pointer (some ⟨p, 0, none⟩), .int .i64 n] w fun e w' => e = .returned (.int .i64 0) ∧ Own W w' p (xs.take (crashN xs.length sy n)) (crashN xs.length sy n) ro (-1) := by
  obtain ⟨o, h1, h2, h3, h4⟩ := h
  refine (tcrash p xs sy ro fu n o w h1 hl hs0 hs1).mono ?_
  rintro e w1 ⟨rfl, ht, hk⟩
  exact ⟨rfl, own_of h2 h3 h4 ht hk⟩
theorem own_append_at {o : Option Nat} {ys : List Int} (q : Option Addr) (c : Nat) (h1 : TapeAt w p xs sy ro fu o) (h2 : W.heap.size ≤ p) (h3 : ∀ g, o = some g → W.heap.size ≤ g) (h4 : Below W.heap.size W w)
    (hy : Lib.BytesIn w q ys.length ys) (hqx : 0 < ys.length → ∀ a, q = some a → ¬ foot p o a.block)
    (hl : xs.length ≤ 16777216) (hyl : ys.length ≤ 9223372036854775807) (hr0 : 0 ≤ ro) (hr1 : ro ≤ 16777216) (hf0 : -1 ≤ fu) (hf1 : fu ≤ 9223372036854775807) :
    Calls Try.prog 9 #[.pointer (some ⟨p, 0, none⟩), .slice q ys.length c] w fun e w' => e = .returned (.int .i64 (appE xs.length ys.length ro fu)) ∧ Own W w' p (appB xs ys ro fu) sy ro (burn fu) := by
  refine (tappend p xs ys sy ro fu o q c w h1 hy hqx hl hyl hr0 hr1 hf0 hf1).mono ?_
  rintro e w1 ⟨rfl, ⟨o', ht, ho⟩, hk⟩
  have hs := h4.size
  refine ⟨rfl, o', ht, h2, ?_, h4.trans (hk.below hs (foot_ge h2 h3))⟩
  intro g hg
  rcases ho with rfl | ⟨g', hg', hle⟩
  · exact h3 g hg
  · rw [hg'] at hg; cases hg; omega
/-- bytes that came in -/
theorem own_append {ys : List Int} (q : Option Addr) (c : Nat) (h : Own W w p xs sy ro fu) (hy : Lib.BytesIn W q ys.length ys)
    (hl : xs.length ≤ 16777216) (hyl : ys.length ≤ 9223372036854775807) (hr0 : 0 ≤ ro) (hr1 : ro ≤ 16777216) (hf0 : -1 ≤ fu) (hf1 : fu ≤ 9223372036854775807) :
    Calls Try.prog 9 #[.pointer (some ⟨p, 0, none⟩), .slice q ys.length c] w fun e w' => e = .returned (.int .i64 (appE xs.length ys.length ro fu)) ∧ Own W w' p (appB xs ys ro fu) sy ro (burn fu) := by
  obtain ⟨o, h1, h2, h3, h4⟩ := h
  refine own_append_at q c h1 h2 h3 h4 (bytes_keep hy (Keep.of_below (X := fun _ => False) h4) (fun _ _ _ h => h)) (fun h0 a ha hf => ?_) hl hyl hr0 hr1 hf0 hf1
  have := foot_ge h2 h3 _ hf
  have := bytes_lt hy h0 a ha
  omega
end
theorem BytesIn.take {w : World} {q : Option Addr} {n m : Nat} {xs : List Int} (h : Lib.BytesIn w q n xs) (hm : m ≤ n) (hx : xs.length = n) : Lib.BytesIn w q (xs.take m).length (xs.take m) := fun h0 => by
  have hl : (xs.take m).length = m := by simp; omega
  rw [hl] at h0 ⊢
  obtain ⟨b, o, e, hc⟩ := h.at (by omega)
  refine ⟨b, o, e, fun i hi => ?_⟩
  rw [hc i (by omega)]
  congr 2
  simp [List.getD, hi]
end Go.Proofs.Ytfeljjbelnlojaa
