/- SHA-256, the document's: mix (under way). -/
import Derived.Test.YtppcccocnmhbgaaDoorShaRef2
import Derived.Test.YtppcccocnmhbgaaDoorIMap
namespace Go.Proofs.YtppcccocnmhbgaaDoor
open Go Go.RowKit
set_option linter.unusedSimpArgs false
set_option linter.unusedVariables false
set_option maxRecDepth 100000

theorem u32c_set (s : Nat → B32) (n i : Nat) (v : B32) (h : i < n) : (u32c s n).toArray.setIfInBounds i (.int .u32 (iv v)) = (u32c (fun k => if k = i then v else s k) n).toArray := by
  rw [List.setIfInBounds_toArray]
  congr 1
  apply List.ext_getElem?
  intro j
  rw [List.getElem?_set]
  by_cases hj : i = j
  · subst hj; rw [if_pos rfl, if_pos (by rw [u32c_length]; exact h), u32c_get _ _ _ h, if_pos rfl]
  · rw [if_neg hj]
    by_cases hn : j < n
    · rw [u32c_get _ _ _ hn, u32c_get _ _ _ hn, if_neg (fun e => hj e.symm)]
    · rw [List.getElem?_eq_none (by rw [u32c_length]; omega), List.getElem?_eq_none (by rw [u32c_length]; omega)]
theorem u32c_ext {s t : Nat → B32} {n : Nat} (h : ∀ i, i < n → s i = t i) : u32c s n = u32c t n := by
  unfold u32c; exact List.map_congr_left fun i hi => by rw [h i (List.mem_range.1 hi)]
/-- the words, moved on down to k -/
def down (s : Nat → B32) (k i : Nat) : B32 := if k < i then s (i - 1) else s i
theorem down_step (s : Nat → B32) (k : Nat) (hk : 0 < k) : ∀ i, (if i = k then s (k - 1) else down s k i) = down s (k - 1) i := by
  intro i
  unfold down
  by_cases h : i = k
  · subst h; rw [if_pos rfl, if_pos (by omega)]
  · rw [if_neg h]
    by_cases h2 : k < i
    · rw [if_pos h2, if_pos (by omega)]
    · rw [if_neg h2, if_neg (by omega)]
theorem iv_not (a : B32) : bits .xor .u32 (if IntKind.u32.signed = true then -1 else IntKind.u32.max) (iv a) = iv (~~~a) := by
  show IntKind.u32.wrap ((BitVec.ofInt 32 4294967295 ^^^ BitVec.ofInt 32 (iv a)).toNat : Int) = _
  rw [ofInt_iv, show BitVec.ofInt 32 4294967295 = BitVec.allOnes 32 from by decide, BitVec.allOnes_xor]
  exact iv_wrap _
theorem storeSt (s : Nat → B32) (w : World) : (storeCells ⟨w.heap.size, 0, none⟩ (u32c s 8)).run Tryd.prog (w.alloc (.cells #[.int .u32 0, .int .u32 0, .int .u32 0, .int .u32 0, .int .u32 0, .int .u32 0, .int .u32 0, .int .u32 0] 52)) = .ok () (w.alloc (.cells (u32c s 8).toArray 52)) := by
  have := store_new (P := Tryd.prog) w 52 #[.int .u32 0, .int .u32 0, .int .u32 0, .int .u32 0, .int .u32 0, .int .u32 0, .int .u32 0, .int .u32 0] (u32c s 8).toArray (by show _ = (u32c s 8).length; rw [u32c_length]; rfl) (by
    rw [Array.all_eq_true_iff_forall_mem]
    intro u hu
    exact u32c_one _ _ u (by simpa using hu))
  simpa using this
theorem storeW (s : Nat → B32) (w : World) : (storeCells ⟨w.heap.size, 0, none⟩ (u32c s 64)).run Tryd.prog (w.alloc (.cells #[.int .u32 0, .int .u32 0, .int .u32 0, .int .u32 0, .int .u32 0, .int .u32 0, .int .u32 0, .int .u32 0, .int .u32 0, .int .u32 0, .int .u32 0, .int .u32 0, .int .u32 0, .int .u32 0, .int .u32 0, .int .u32 0, .int .u32 0, .int .u32 0, .int .u32 0, .int .u32 0, .int .u32 0, .int .u32 0, .int .u32 0, .int .u32 0, .int .u32 0, .int .u32 0, .int .u32 0, .int .u32 0, .int .u32 0, .int .u32 0, .int .u32 0, .int .u32 0, .int .u32 0, .int .u32 0, .int .u32 0, .int .u32 0, .int .u32 0, .int .u32 0, .int .u32 0, .int .u32 0, .int .u32 0, .int .u32 0, .int .u32 0, .int .u32 0, .int .u32 0, .int .u32 0, .int .u32 0, .int .u32 0, .int .u32 0, .int .u32 0, .int .u32 0, .int .u32 0, .int .u32 0, .int .u32 0, .int .u32 0, .int .u32 0, .int .u32 0, .int .u32 0, .int .u32 0, .int .u32 0, .int .u32 0, .int .u32 0, .int .u32 0, .int .u32 0] 71)) = .ok () (w.alloc (.cells (u32c s 64).toArray 71)) := by
  have := store_new (P := Tryd.prog) w 71 #[.int .u32 0, .int .u32 0, .int .u32 0, .int .u32 0, .int .u32 0, .int .u32 0, .int .u32 0, .int .u32 0, .int .u32 0, .int .u32 0, .int .u32 0, .int .u32 0, .int .u32 0, .int .u32 0, .int .u32 0, .int .u32 0, .int .u32 0, .int .u32 0, .int .u32 0, .int .u32 0, .int .u32 0, .int .u32 0, .int .u32 0, .int .u32 0, .int .u32 0, .int .u32 0, .int .u32 0, .int .u32 0, .int .u32 0, .int .u32 0, .int .u32 0, .int .u32 0, .int .u32 0, .int .u32 0, .int .u32 0, .int .u32 0, .int .u32 0, .int .u32 0, .int .u32 0, .int .u32 0, .int .u32 0, .int .u32 0, .int .u32 0, .int .u32 0, .int .u32 0, .int .u32 0, .int .u32 0, .int .u32 0, .int .u32 0, .int .u32 0, .int .u32 0, .int .u32 0, .int .u32 0, .int .u32 0, .int .u32 0, .int .u32 0, .int .u32 0, .int .u32 0, .int .u32 0, .int .u32 0, .int .u32 0, .int .u32 0, .int .u32 0, .int .u32 0] (u32c s 64).toArray (by show _ = (u32c s 64).length; rw [u32c_length]; rfl) (by
    rw [Array.all_eq_true_iff_forall_mem]
    intro u hu
    exact u32c_one _ _ u (by simpa using hu))
  simpa using this
end Go.Proofs.YtppcccocnmhbgaaDoor
