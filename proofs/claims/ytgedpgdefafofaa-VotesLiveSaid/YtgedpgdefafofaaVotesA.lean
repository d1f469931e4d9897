/- The walks of layer 18: none, New, Has. -/
import Derived.Test.YtgedpgdefafofaaRows
import Derived.Test.YtgedpgdefafofaaHashE
import Derived.Test.YtgedpgdefafofaaIMap
import Derived.Test.YtgedpgdefafofaaShelf
import Derived.Test.YtgedpgdefafofaaRegion
import Derived.BigQuiet
import Derived.StillTailTactics
import Derived.Deep.LoopGhost
namespace Go.Proofs.Ytgedpgdefafofaa
open Go Go.RowKit
set_option linter.unusedSimpArgs false

/-- votes: who, and for which sum -/
abbrev VL := List (Int × Nat)
def VL.ok (L : VL) : Prop := (L.map Prod.fst).Nodup ∧ ∀ e ∈ L, (Lit.int .i64 e.1).wf = true ∧ e.2 < W256
/-- what the map has -/
def vmap (L : VL) (x : Int) : Option Value := (L.find? (fun e => e.1 == x)).map fun e => hv e.2
/-- the cells of Votes -/
def vcs (id : Nat) (m v : Value) : Array Value := hcs id ++ #[m, v]
theorem vcs_32 (id : Nat) (m v : Value) : (vcs id m v)[32]? = some m := by
  unfold vcs; rw [Array.getElem?_append_right (by rw [hcs_size]; omega), hcs_size]; rfl
theorem vcs_33 (id : Nat) (m v : Value) : (vcs id m v)[33]? = some v := by
  unfold vcs; rw [Array.getElem?_append_right (by rw [hcs_size]; omega), hcs_size]; rfl
theorem vcs_set (id : Nat) (m v u : Value) : (vcs id m v).setIfInBounds 33 u = vcs id m u := by
  apply Array.ext_getElem?; intro i
  rw [Array.getElem?_setIfInBounds]
  unfold vcs
  by_cases h : i < 32
  · rw [if_neg (by omega), Array.getElem?_append_left (by rw [hcs_size]; omega), Array.getElem?_append_left (by rw [hcs_size]; omega)]
  · by_cases h33 : 33 = i
    · subst h33
      rw [if_pos rfl, if_pos (by simp [hcs_size]), Array.getElem?_append_right (by rw [hcs_size]; omega), hcs_size]; rfl
    · rw [if_neg h33, Array.getElem?_append_right (by rw [hcs_size]; omega), Array.getElem?_append_right (by rw [hcs_size]; omega), hcs_size]
      rcases (by omega : i = 32 ∨ 34 ≤ i) with h | h
      · subst h; rfl
      · rw [Array.getElem?_eq_none (by simp; omega), Array.getElem?_eq_none (by simp; omega)]
/-- votes that a call made, in memory; bm: the map's block, o: the block of the order -/
def VAt (w : World) (p : Nat) (L : VL) (bm : Nat) (o : Option Nat) : Prop :=
  ∃ id v, Blk w p (vcs id (.map (some bm)) v) 48 ∧ IMap Try.prog 3 w bm (vmap L) L.length ∧ RowV w 3 1 v L.length (L.map fun e => Value.int .i64 e.1) o ∧ bm ≠ p ∧ o ≠ some p ∧ o ≠ some bm
def foot3 (p bm : Nat) (o : Option Nat) : Nat → Prop := fun k => k = p ∨ k = bm ∨ o = some k
theorem VAt.keep {X : Nat → Prop} {w w' : World} {p bm : Nat} {L : VL} {o : Option Nat} (h : VAt w p L bm o) (hk : Keep X w w') (hn : ∀ k, foot3 p bm o k → ¬ X k) : VAt w' p L bm o := by
  obtain ⟨id, v, h1, h2, h3, h4⟩ := h
  exact ⟨id, v, hk.blk h1 (hn p (.inl rfl)), h2.keep hk (hn bm (.inr (.inl rfl))), h3.keep hk (fun g hg => hn g (.inr (.inr hg))), h4⟩
theorem VAt.below {w w' : World} {p bm : Nat} {L : VL} {o : Option Nat} (h : VAt w p L bm o) (hk : Below w.heap.size w w') : VAt w' p L bm o := h.keep (X := fun _ => False) (Keep.of_below hk) (fun _ _ h => h)
theorem VAt.lt {w : World} {p bm : Nat} {L : VL} {o : Option Nat} (h : VAt w p L bm o) : ∀ k, foot3 p bm o k → k < w.heap.size := by
  obtain ⟨id, v, h1, h2, h3, h4⟩ := h
  rintro k (rfl | rfl | e)
  · exact h1.lt
  · exact h2.lt
  · exact h3.lt k e
theorem zeroHash (w : World) : (zeroValue 26).run Try.prog w = .ok (hv 0) w := by
  rw [show hv 0 = .agg (Array.replicate 32 (Value.int .u8 0)) from by unfold hv; rw [hcs_zero]]
  kernel_rfl
theorem mapNotNil (b : Nat) (w : World) : (binOp .eql 46 (.map (some b)) (.map none)).run Try.prog w = .ok (.bool false) w := by kernel_rfl
theorem pnone (p : Nat) (b : Nat) (w : World) (h : w.cell? ⟨p, 32, none⟩ = some (.map (some b))) : Calls Try.prog 18 #[.pointer (some ⟨p, 0, none⟩)] w fun e w' => e = .returned (.bool false) ∧ w = w' := by
  go_enter Try.func18, Try.ntmps18
  have hm := mapNotNil b w
  go_wp2
  go_ret
  exact ⟨rfl, rfl⟩
set_option maxRecDepth 100000 in
theorem buildVotes (id b : Nat) (w : World) : (Instr.build 48 #[(0, hv id), (1, .map (some b))]).run Try.prog w = .ok (.agg (vcs id (.map (some b)) (.slice none 0 0))) w := run_build w 48 _ _ (by kernel_rfl)
set_option maxHeartbeats 800000 in
theorem pnew (id : Nat) (w : World) : Calls Try.prog 5 #[hv id] w fun e w' => ∃ p bm, e = .returned (.pointer (some ⟨p, 0, none⟩)) ∧ VAt w' p [] bm none ∧ w.heap.size ≤ p ∧ w.heap.size ≤ bm ∧ Below w.heap.size w w' := by
  have hmm := @run_makeMap Try.prog
  have hbl := Blk.new w (hcs id) 26
  go_enter Try.func5, Try.ntmps5
  go_upto_region 1 with fail
  go_step
  refine wpl_load rfl 26 (.tmp 1) rfl rfl hbl Try.underlying26 (by rw [hcs_size]; kernel_rfl) ?_
  have hb1 := (Below.refl w.heap.size w).alloc (Nat.le_refl _) (.cells (hcs id) 26)
  generalize w.alloc (.cells (hcs id) 26) = w1 at *
  have hm1 := IMap.made w1 Try.prog 3
  have hb2 := hb1.alloc hb1.size (.map #[] 0)
  have hs2 : (w1.alloc (.map #[] 0)).heap.size = w1.heap.size + 1 := by simp
  have hbu := fun w' => buildVotes id w1.heap.size w'
  obtain ⟨VC, hVC⟩ : ∃ VC, VC = vcs id (.map (some w1.heap.size)) (.slice none 0 0) := ⟨_, rfl⟩
  rw [← hVC] at hbu
  have HVC := Lib.hid hVC
  clear hVC
  refine wpl_makeMap rfl _ rfl ?_
  generalize hw2 : w1.alloc (.map #[] 0) = w2 at *
  refine wpl_build (ps := #[(0, hv id), (1, .map (some w1.heap.size))]) rfl 48 #[(0, .tmp 3), (1, .tmp 4)] rfl (by simp [Act.put, Act.eval]) (hbu _) ?_
  have H1 := Lib.hid (And.intro hm1 (And.intro hb1 (And.intro hb2 hs2)))
  clear hm1 hb1 hb2 hs2 hbu hbl hw2 hmm
  go_wp2
  go_ret
  obtain ⟨hm1, hb1, hb2, hs2⟩ := H1.out
  have hs := hb1.size
  refine ⟨w2.heap.size, w1.heap.size, rfl, ⟨id, _, by rw [← HVC.out]; exact Blk.new _ _ _, hm1.keep (X := fun _ => False) ((Keep.refl _ _).alloc _) (fun h => h), RowV.nil _ _ _, by omega, fun h => (by cases h), fun h => (by cases h)⟩, by omega, hs, hb2.alloc (by omega) _⟩
theorem vmap_val (L : VL) (x : Int) : ∃ n, (vmap L x).getD (hv 0) = hv n := by
  unfold vmap
  cases L.find? (fun e => e.1 == x) with
  | none => exact ⟨0, rfl⟩
  | some e => exact ⟨e.2, rfl⟩
/-- has x voted? -/
def vhas (L : VL) (x : Int) : Bool := L.any (fun e => e.1 == x)
theorem vmap_has (L : VL) (x : Int) : (vmap L x).isSome = vhas L x := by
  unfold vmap vhas
  rw [Option.isSome_map, Bool.eq_iff_iff, List.find?_isSome, List.any_eq_true]
theorem VAt.drew {w : World} {p bm : Nat} {L : VL} {o : Option Nat} (h : VAt w p L bm o) : VAt w.drew p L bm o := h.below (Below.refl _ _).drew
/-- a variable of type api.Hash, new, is given a value -/
theorem storeHash (n : Nat) (w : World) : (storeCells ⟨w.heap.size, 0, none⟩ (hcs n).toList).run Try.prog (w.alloc (.cells #[.int .u8 0, .int .u8 0, .int .u8 0, .int .u8 0, .int .u8 0, .int .u8 0, .int .u8 0, .int .u8 0, .int .u8 0, .int .u8 0, .int .u8 0, .int .u8 0, .int .u8 0, .int .u8 0, .int .u8 0, .int .u8 0, .int .u8 0, .int .u8 0, .int .u8 0, .int .u8 0, .int .u8 0, .int .u8 0, .int .u8 0, .int .u8 0, .int .u8 0, .int .u8 0, .int .u8 0, .int .u8 0, .int .u8 0, .int .u8 0, .int .u8 0, .int .u8 0] 26)) = .ok () (w.alloc (.cells (hcs n) 26)) :=
  store_new w _ _ _ (by rw [hcs_size]; rfl) (hcs_one n)
set_option maxHeartbeats 1600000 in
theorem phas (p : Nat) (L : VL) (bm : Nat) (o : Option Nat) (x : Int) (w : World) (h : VAt w p L bm o) (hx : (Lit.int .i64 x).wf = true) :
    Calls Try.prog 10 #[.pointer (some ⟨p, 0, none⟩), .int .i64 x] w fun e w' => e = .returned (.bool (vhas L x)) ∧ Below w.heap.size w w' := by
  obtain ⟨id, v, h1, h2, h3, h4⟩ := h
  have c32 := h1.cell 32
  rw [vcs_32] at c32
  have PN := Lib.hid (pnone p bm w c32)
  have hrun := h2.lookOk Try.underlying3 Try.underlying46 (zeroHash w) hx
  rw [vmap_has] at hrun
  obtain ⟨n, hn⟩ := vmap_val L x
  rw [hn] at hrun
  clear h1 h2 h3 h4 hn hx
  generalize vhas L x = b at *
  go_enter Try.func10, Try.ntmps10
  go_wp2_with fail
  refine PN.out.mono ?_
  rintro e w1 ⟨rfl, rfl⟩
  have hst := storeHash n w
  go_wp2
  go_ret
  exact ⟨rfl, (Below.refl _ _).alloc (Nat.le_refl _) _⟩
end Go.Proofs.Ytgedpgdefafofaa
