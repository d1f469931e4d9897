import Derived.Deep.RegionHeld3
import Derived.WalkKit
import Derived.Test.YtbjbjgfjaopibaaGreatDoorRows
import Derived.Test.YtbjbjgfjaopibaaGreatDoorLv1
import Derived.Deep.LoopGhost
import Derived.Lib.AppendZerosOnto
section
/- A region that draws its order, with a condition S on the world that holds till ALL have come up: so its last operation may write what the others read. The steps are OrdersHeld's, S being asked no more at the end. -/
namespace Go.Proofs.YtbjbjgfjaopibaaGreatDoor
open Go

section
variable {P : Program} {ops : Array Oper} {Q : Exit → Act → World → Prop} {md : Region.Mode} {S : World → Prop}

/-- whatever order is picked from here on, and S holds behind every operation but number z -/
def wpAnyL (P : Program) (md : Region.Mode) (ops : Array Oper) (Q : Exit → Act → World → Prop) (S : World → Prop) (z : Nat) : Nat → Array Bool → Act → World → Prop
  | 0, listed, a, w => Region.ready md ops listed = [] ∧ Q .normal a w
  | fuel + 1, listed, a, w =>
    (Region.ready md ops listed = [] → Q .normal a w) ∧
    ∀ i ∈ Region.ready md ops listed, wpOp P ops Q i (fun a' w' => (i = z ∨ S w') ∧ wpAnyL P md ops Q S z fuel (listed.setIfInBounds i true) a' w') a w

variable {z : Nat}

theorem wpAny_of_L : ∀ (fuel : Nat) (listed : Array Bool) (a : Act) (w : World), wpAnyL P md ops Q S z fuel listed a w → wpAny P md ops Q fuel listed a w
  | 0, _, _, _, h => h
  | fuel + 1, _, _, _, h => ⟨h.1, fun i hi => wpOp_mono (fun a' w' h' => wpAny_of_L fuel _ a' w' h'.2) (h.2 i hi)⟩

/-- does operation z wait for operation i? -/
def waits (md : Region.Mode) (ops : Array Oper) (z i : Nat) : Bool := ((ops[z]?).map fun o => o.after.any fun e => Region.binds md e && e.on == i).getD false
theorem waits_spec {i : Nat} {o : Oper} (ho : ops[z]? = some o) (h : waits md ops z i = true) : ∃ e ∈ o.after, Region.binds md e = true ∧ e.on = i := by
  unfold waits at h
  rw [ho] at h
  simp only [Option.map_some, Option.getD_some, Array.any_eq_true] at h
  obtain ⟨k, hk, h⟩ := h
  rw [Bool.and_eq_true, beq_iff_eq] at h
  exact ⟨o.after[k], Array.getElem_mem hk, h.1, h.2⟩

theorem wpAnyL_first {i : Nat} {oi : Oper} {v : Value} (hi : ops[i]? = some oi) (hsel : ∀ (j : Nat) (o : Oper) cs b, ops[j]? = some o → o.op ≠ .select cs b)
    (hQ : ∀ c a w, Q (.panic c) (a.put oi.dst v) w → Q (.panic c) a w) (hz : waits md ops z i = true) :
    ∀ (fuel : Nat) (listed : Array Bool) (a : Act) (w : World),
      (∀ j oj, ops[j]? = some oj → j ≠ i → listed.getD j true = false → (∀ e ∈ oj.after, Region.binds md e = true → e.on ≠ i) → oi.apart ops oj = true) →
      i ∈ Region.ready md ops listed → YieldsIf P ops S oi v a → S w →
      wpAnyL P md ops Q S z fuel (listed.setIfInBounds i true) (a.put oi.dst v) w → wpAnyL P md ops Q S z (fuel + 1) listed a w := by
  intro fuel
  induction fuel with
  | zero =>
    intro listed a w _ hr hy hS H
    refine ⟨fun h => (by rw [h] at hr; cases hr), fun j hj => ?_⟩
    by_cases hji : j = i
    · subst hji; exact hy.wpOp hi hS ⟨.inr hS, H⟩
    · have := ready_mono hj hji
      rw [H.1] at this
      cases this
  | succ fuel ih =>
    intro listed a w hfree hr hy hS H
    refine ⟨fun h => (by rw [h] at hr; cases hr), fun j hj => ?_⟩
    by_cases hji : j = i
    · subst hji; exact hy.wpOp hi hS ⟨.inr hS, H⟩
    · have h1 := H.2 j (ready_mono hj hji)
      obtain ⟨hjun, oj, hoj, hall⟩ := mem_ready.1 hj
      have hiun := (mem_ready.1 hr).1
      have hnot : ∀ e ∈ oj.after, Region.binds md e = true → e.on ≠ i := fun e he hb heq => by
        have h1 := hall e he hb
        rw [heq] at h1
        rcases Nat.lt_or_ge i listed.size with h' | h'
        · simp [h'] at hiun h1; rw [hiun] at h1; cases h1
        · simp [Array.getElem?_eq_none h'] at h1
      have h2 := wpOp_putIf hoj (hfree j oj hoj hji hjun hnot) (fun cs b => hsel i oi cs b hi) (fun cs b => hsel j oj cs b hoj) hQ hy h1
      have hfree' : ∀ k ok, ops[k]? = some ok → k ≠ i → (listed.setIfInBounds j true).getD k true = false →
          (∀ e ∈ ok.after, Region.binds md e = true → e.on ≠ i) → oi.apart ops ok = true := fun k ok hk hki hun hno => by
        refine hfree k ok hk hki ?_ hno
        by_cases hjk : j = k
        · subst hjk; exact hjun
        · rw [getD_set_ne true hjk] at hun; exact hun
      refine wpOp_mono (fun a' w' h3 => ?_) h2
      have hSw : S w' := by
        rcases h3.2.1 with rfl | hSw
        · obtain ⟨e, he, hb, heq⟩ := waits_spec hoj hz
          exact absurd heq (hnot e he hb)
        · exact hSw
      refine ⟨.inr hSw, ih (listed.setIfInBounds j true) a' w' hfree' (ready_mono hr (Ne.symm hji)) h3.1 hSw ?_⟩
      rw [Array.setIfInBounds_comm _ _ hji]
      exact h3.2.2

/-- number i is taken first -/
theorem wpAnyL_take {i : Nat} {oi : Oper} {v : Value} {fuel : Nat} {listed : Array Bool} {a : Act} {w : World} (hi : ops[i]? = some oi)
    (hs : Region.noSelect ops = true) (hf : Region.free md ops listed i = true) (hr : (Region.ready md ops listed).contains i = true) (hz : waits md ops z i = true)
    (hQ : ∀ c a w, Q (.panic c) (a.put oi.dst v) w → Q (.panic c) a w) (hy : YieldsIf P ops S oi v a) (hS : S w)
    (h : wpAnyL P md ops Q S z fuel (listed.setIfInBounds i true) (a.put oi.dst v) w) : wpAnyL P md ops Q S z (fuel + 1) listed a w :=
  wpAnyL_first hi (Region.noSelect_spec hs) hQ hz fuel listed a w (Region.free_spec hi hf) (by simpa using hr) hy hS h
/-- one alone may come up -/
theorem wpAnyL_one {i : Nat} {oi : Oper} {fuel : Nat} {listed : Array Bool} {a : Act} {w : World} (hi : ops[i]? = some oi) (hr : Region.ready md ops listed = [i])
    (h : ∀ K' : Act → World → Prop, Shut (∀ a' w', (i = z ∨ S w') → wpAnyL P md ops Q S z fuel (listed.setIfInBounds i true) a' w' → K' a' w') →
      if Region.wanted oi (yielded ops a.tmps) = true then oi.wp P a w K' Q else K' (a.put oi.dst undef) w) : wpAnyL P md ops Q S z (fuel + 1) listed a w :=
  ⟨fun h0 => (by rw [hr] at h0; cases h0), fun j hj => by
    rw [hr] at hj
    obtain rfl : j = i := by simpa using hj
    exact wpOp_step hi fun K' hK => h K' fun a' w' hS hW => hK a' w' ⟨hS, hW⟩⟩
theorem wpAnyL_done {listed : Array Bool} {a : Act} {w : World} (hr : Region.ready md ops listed = []) (h : Q .normal a w) : ∀ fuel, wpAnyL P md ops Q S z fuel listed a w
  | 0 => ⟨hr, h⟩
  | _ + 1 => ⟨fun _ => h, by rw [hr]; simp⟩
/-- wpAnyL_take, in brief -/
theorem tkL (i : Nat) {d : Option Tmp} {op : Op} {ty : TypeId} {pos : String} {af} {gd} {v : Value} {fuel : Nat} {listed : Array Bool} {a : Act} {w : World} (hi : ops[i]? = some ⟨d, op, ty, pos, af, gd⟩)
    (hs : (Region.noSelect ops && (Region.free md ops listed i && ((Region.ready md ops listed).contains i && waits md ops z i))) = true)
    (hy : Region.wanted ⟨d, op, ty, pos, af, gd⟩ (yielded ops a.tmps) = true ∧ ∀ w, S w → (execOp a.eval ⟨d, op, ty, pos, af, gd⟩).run P w = .ok (.value v) w) (hS : S w)
    (h : wpAnyL P md ops Q S z fuel (listed.setIfInBounds i true) (a.put d v) w) (hQ : ∀ c a w, Q (.panic c) (a.put d v) w → Q (.panic c) a w := by exact fun _ _ _ h => h) : wpAnyL P md ops Q S z (fuel + 1) listed a w := by
  rw [Bool.and_eq_true, Bool.and_eq_true, Bool.and_eq_true] at hs
  exact wpAnyL_take hi hs.1 hs.2.1 hs.2.2.1 hs.2.2.2 hQ (.inl hy) hS h
/-- wpAnyH_take, in brief -/
theorem tkH (i : Nat) {d : Option Tmp} {op : Op} {ty : TypeId} {pos : String} {af} {gd} {v : Value} {fuel : Nat} {listed : Array Bool} {a : Act} {w : World} (hi : ops[i]? = some ⟨d, op, ty, pos, af, gd⟩)
    (hs : (Region.noSelect ops && (Region.free md ops listed i && (Region.ready md ops listed).contains i)) = true)
    (hy : Region.wanted ⟨d, op, ty, pos, af, gd⟩ (yielded ops a.tmps) = true ∧ ∀ w, S w → (execOp a.eval ⟨d, op, ty, pos, af, gd⟩).run P w = .ok (.value v) w) (hS : S w)
    (h : wpAnyH P md ops Q S fuel (listed.setIfInBounds i true) (a.put d v) w) (hQ : ∀ c a w, Q (.panic c) (a.put d v) w → Q (.panic c) a w := by exact fun _ _ _ h => h) : wpAnyH P md ops Q S (fuel + 1) listed a w := by
  rw [Bool.and_eq_true, Bool.and_eq_true] at hs
  exact wpAnyH_take hi hs.1 hs.2.1 hs.2.2 hQ (.inl hy) hS h
/-- the beginning: z is the number of the operation behind which S is asked no more -/
theorem wp_region_last {id : Nat} {a : Act} {w : World} (z : Nat) (S : World → Prop) (hm : P.follows .mixedOrders = true) (hS : S w.drew)
    (h : S w.drew → wpAnyL P .any ops Q S z ops.size (Array.replicate ops.size false) a w.drew) : (Code.region id ops true).wp P Q a w :=
  wp_region_any hm (wpAny_of_L _ _ _ _ (h hS))
end
open Go.RowKit
/-- what a region that draws its order holds of the world v in which it began: old cells are as they were, and may be written as before -/
theorem SF.start (v : World) : Below v.heap.size v v.drew ∧ (∀ b o, b < v.heap.size → v.drew.cell? ⟨b, o, none⟩ = v.cell? ⟨b, o, none⟩) ∧ (∀ b o, b < v.heap.size → v.drew.frozen? ⟨b, o, none⟩ = v.frozen? ⟨b, o, none⟩) :=
  ⟨(Below.refl _ _).drew, fun _ _ _ => rfl, fun _ _ _ => rfl⟩
theorem SF.of {v w : World} (hb : Below v.heap.size v w) : Below v.heap.size v w ∧ (∀ b o, b < v.heap.size → w.cell? ⟨b, o, none⟩ = v.cell? ⟨b, o, none⟩) ∧ (∀ b o, b < v.heap.size → w.frozen? ⟨b, o, none⟩ = v.frozen? ⟨b, o, none⟩) :=
  ⟨hb, fun _ _ h => hb.cell (p := ⟨_, _, none⟩) h, fun _ _ h => hb.frozen (p := ⟨_, _, none⟩) h⟩
theorem SF.keep {v w w' : World} (h : Below v.heap.size v w ∧ (∀ b o, b < v.heap.size → w.cell? ⟨b, o, none⟩ = v.cell? ⟨b, o, none⟩) ∧ (∀ b o, b < v.heap.size → w.frozen? ⟨b, o, none⟩ = v.frozen? ⟨b, o, none⟩)) (hb : Below w.heap.size w w') :
    Below v.heap.size v w' ∧ (∀ b o, b < v.heap.size → w'.cell? ⟨b, o, none⟩ = v.cell? ⟨b, o, none⟩) ∧ (∀ b o, b < v.heap.size → w'.frozen? ⟨b, o, none⟩ = v.frozen? ⟨b, o, none⟩) :=
  SF.of (h.1.trans (hb.mono h.1.size))
end Go.Proofs.YtbjbjgfjaopibaaGreatDoor
end

section
/- Bytes as numbers, the lowest first: the document's Number, the closure in filter.under; no object in sight. -/
namespace Go.Proofs.YtbjbjgfjaopibaaGreatDoor
open Go Go.RowKit
set_option linter.unusedSimpArgs false
set_option linter.unusedVariables false
set_option maxRecDepth 100000

theorem leN_take_lt (ys : List Int) (hr : ∀ y ∈ ys, 0 ≤ y ∧ y ≤ 255) (k : Nat) (hk : k ≤ ys.length) : leN (ys.take k) < 256 ^ k := by
  have := leN_lt (ys.take k) (fun y hy => hr y (List.mem_of_mem_take hy))
  rwa [List.length_take, Nat.min_eq_left hk] at this
theorem leN_take_succ (ys : List Int) (k : Nat) (hk : k < ys.length) : leN (ys.take (k + 1)) = leN (ys.take k) + 256 ^ k * (ys.getD k 0).toNat := by
  rw [List.take_succ_eq_append_getElem hk, leN_snoc, List.length_take, Nat.min_eq_left (by omega)]
  congr 2
  rw [List.getD_eq_getElem?_getD, List.getElem?_eq_getElem hk]; rfl
theorem pow256 (k : Nat) : 256 ^ k = 2 ^ (8 * k) := by rw [Nat.pow_mul]
theorem le_or (a k : Nat) (x : Int) (hk : k < 8) (ha : a < 256 ^ k) (h0 : 0 ≤ x) (h1 : x ≤ 255) : bits .or .u64 (a : Int) (IntKind.u64.wrap (x * 2 ^ (8 * k))) = ((a + 256 ^ k * x.toNat : Nat) : Int) := by
  obtain ⟨n, rfl⟩ := Int.eq_ofNat_of_zero_le h0
  have hn : n < 256 := by omega
  rw [pow256] at *
  have hp : 2 ^ (8 * k) * n < 2 ^ 64 := by
    have h2 : 2 ^ (8 * k) * n < 2 ^ (8 * k) * 2 ^ 8 := Nat.mul_lt_mul_of_pos_left hn (Nat.two_pow_pos _)
    rw [← Nat.pow_add] at h2
    exact Nat.lt_of_lt_of_le h2 (Nat.pow_le_pow_right (by decide) (by omega))
  have ha2 : a < 2 ^ 64 := Nat.lt_of_lt_of_le ha (Nat.pow_le_pow_right (by decide) (by omega))
  have e : ((n : Nat) : Int) * 2 ^ (8 * k) = ((2 ^ (8 * k) * n : Nat) : Int) := by rw [Int.natCast_mul, Int.natCast_pow]; exact Int.mul_comm _ _
  show bits .or .u64 (a : Int) (IntKind.u64.wrap (((n : Nat) : Int) * 2 ^ (8 * k))) = ((a + 2 ^ (8 * k) * n : Nat) : Int)
  rw [e, IntWalk.u64_in _ (by omega)]
  rw [show bits .or .u64 (a : Int) ((2 ^ (8 * k) * n : Nat) : Int) = ((a ||| (2 ^ (8 * k) * n) : Nat) : Int) from u64_or_nat _ _ ha2 hp]
  congr 1
  rw [Nat.add_comm a, Nat.two_pow_add_eq_or_of_lt ha, Nat.or_comm]
theorem le_step (ys : List Int) (hr : ∀ y ∈ ys, 0 ≤ y ∧ y ≤ 255) (k : Nat) (hk : k < ys.length) (h8 : ys.length ≤ 8) :
    bits .or .u64 ((leN (ys.take k) : Nat) : Int) (IntKind.u64.wrap (ys.getD k 0 * 2 ^ (8 * k))) = ((leN (ys.take (k + 1)) : Nat) : Int) := by
  have hx : 0 ≤ ys.getD k 0 ∧ ys.getD k 0 ≤ 255 := by
    rw [List.getD_eq_getElem?_getD, List.getElem?_eq_getElem hk]; exact hr _ (List.getElem_mem _)
  rw [leN_take_succ ys k hk]
  exact le_or _ k _ (by omega) (leN_take_lt ys hr k (by omega)) hx.1 hx.2
theorem getD_rng {l : List Int} (h : ∀ y ∈ l, 0 ≤ y ∧ y ≤ 255) (i : Nat) : 0 ≤ l.getD i 0 ∧ l.getD i 0 ≤ 255 := by
  rw [List.getD_eq_getElem?_getD]
  by_cases hi : i < l.length
  · rw [List.getElem?_eq_getElem hi]; exact h _ (List.getElem_mem hi)
  · rw [List.getElem?_eq_none (by omega)]; exact ⟨Int.le_refl 0, by decide⟩
end Go.Proofs.YtbjbjgfjaopibaaGreatDoor
end

section
/- A slice of elements of any kind, in a block of its own. No program in sight. -/
namespace Go.Proofs.YtbjbjgfjaopibaaGreatDoor
open Go Go.RowKit

/-- v is a slice of n elements of k cells each, the cells cs: nil (o = none), or from the head of block g on (o = some g) -/
def RowV (w : World) (e : TypeId) (k : Nat) (v : Value) (n : Nat) (cs : List Value) (o : Option Nat) : Prop :=
  cs.length = n * k ∧ ((v = .slice none 0 0 ∧ n = 0 ∧ o = none) ∨ ∃ g cap cur, o = some g ∧ v = .slice (some ⟨g, 0, none⟩) n cap ∧ Blk w g cur e ∧ n ≤ cap ∧ cap * k ≤ cur.size ∧ cap ≤ maxLen ∧ cur.toList.take (n * k) = cs)
section
variable {w w' : World} {e : TypeId} {k : Nat} {v : Value} {n : Nat} {cs : List Value} {o : Option Nat} {g : Nat}
theorem RowV.nil (w : World) (e : TypeId) (k : Nat) : RowV w e k (.slice none 0 0) 0 [] none := ⟨by simp, .inl ⟨rfl, rfl, rfl⟩⟩
theorem RowV.keep {X : Nat → Prop} (h : RowV w e k v n cs o) (hk : Keep X w w') (hn : ∀ g, o = some g → ¬ X g) : RowV w' e k v n cs o := by
  obtain ⟨hl, h | ⟨g, cap, cur, h0, h1, h2, h3⟩⟩ := h
  · exact ⟨hl, .inl h⟩
  · exact ⟨hl, .inr ⟨g, cap, cur, h0, h1, hk.blk h2 (hn g h0), h3⟩⟩
theorem RowV.lt (h : RowV w e k v n cs o) : ∀ g, o = some g → g < w.heap.size := by
  intro g hg
  obtain ⟨hl, ⟨_, _, h0⟩ | ⟨g', cap, cur, h0, h1, h2, h3⟩⟩ := h
  · rw [h0] at hg; cases hg
  · rw [h0] at hg; cases hg; exact h2.lt
/-- what it looks like -/
theorem RowV.form (h : RowV w e k v n cs o) : ∃ p c, v = .slice p n c ∧ n ≤ c ∧ c ≤ maxLen ∧ (p = none ∧ n = 0 ∧ c = 0 ∧ o = none ∨ ∃ g, o = some g ∧ p = some ⟨g, 0, none⟩ ∧ g < w.heap.size) := by
  obtain ⟨hl, ⟨rfl, rfl, rfl⟩ | ⟨g, cap, cur, h0, h1, h2, h3, h4, h5, h6⟩⟩ := h
  · exact ⟨none, 0, rfl, Nat.le_refl _, Nat.zero_le _, .inl ⟨rfl, rfl, rfl, rfl⟩⟩
  · exact ⟨_, cap, h1, h3, h5, .inr ⟨g, h0, rfl, h2.lt⟩⟩
/-- one that has elements lies in a block -/
theorem RowV.mem (h : RowV w e k v n cs o) (h0 : 0 < n) : ∃ g cap, o = some g ∧ v = .slice (some ⟨g, 0, none⟩) n cap ∧ n ≤ cap ∧ cap ≤ maxLen ∧ g < w.heap.size ∧ (∀ j, j < n * k → w.cell? ⟨g, j, none⟩ = cs[j]?) ∧ (∀ j, w.frozen? ⟨g, j, none⟩ = false) := by
  obtain ⟨hl, ⟨rfl, rfl, rfl⟩ | ⟨g, cap, cur, h0, h1, h2, h3, h4, h5, h6⟩⟩ := h
  · omega
  · exact ⟨g, cap, h0, h1, h3, h5, h2.lt, fun j hj => by rw [h2.cell, ← h6, List.getElem?_take, if_pos hj]; simp, fun j => h2.free j⟩
/-- a cell of it set -/
theorem RowV.set {cap : Nat} (h : RowV w e k (.slice (some ⟨g, 0, none⟩) n cap) n cs (some g)) (j : Nat) (u : Value) (_ : j < n * k) : RowV (w.setCell ⟨g, j, none⟩ u) e k (.slice (some ⟨g, 0, none⟩) n cap) n (cs.set j u) (some g) := by
  obtain ⟨hl, ⟨h1, _, _⟩ | ⟨g', cap', cur, h0, h1, h2, h3, h4, h5, h6⟩⟩ := h
  · cases h1
  · cases h0; cases h1
    refine ⟨by simp [hl], .inr ⟨g, cap, _, rfl, rfl, h2.set j u, h3, by simpa using h4, h5, ?_⟩⟩
    rw [← h6]; simp [List.take_set]
theorem RowV.toRow {xs : List Int} (h : RowV w e 1 v n (u8s xs) o) : Row w e v xs o := by
  obtain ⟨hl, h⟩ := h
  rw [u8s_length, Nat.mul_one] at hl
  subst hl
  rcases h with ⟨h1, h2, h3⟩ | ⟨g, cap, cur, h0, h1, h2, h3, h4, h5, h6⟩
  · exact .inl ⟨h1, List.eq_nil_of_length_eq_zero h2, h3⟩
  · exact .inr ⟨g, cap, cur, h0, h1, h2, h3, by omega, h5, by simpa using h6⟩
theorem RowV.of_owns {B : Nat} (h : w.ownsRow B e k v n cs) : ∃ o, RowV w e k v n cs o ∧ (∀ g, o = some g → B ≤ g ∧ g < w.heap.size) ∧ (0 < n → ∃ g, o = some g) := by
  obtain ⟨hl, h⟩ := h
  rcases h with ⟨rfl, h0⟩ | ⟨g, cap, cur, rfl, hB, hg, h3, h4, h5, h6⟩
  · exact ⟨none, ⟨hl, .inl ⟨rfl, h0, rfl⟩⟩, fun g hg => by (cases hg), fun h => by omega⟩
  · exact ⟨some g, ⟨hl, .inr ⟨g, cap, cur, rfl, rfl, hg, h3, by omega, h4, h6⟩⟩, fun g' hg' => by (cases hg'; exact ⟨hB, (Array.getElem?_eq_some_iff.1 hg).1⟩), fun _ => ⟨g, rfl⟩⟩

/-- THE LAW OF APPEND onto such a row, out of whatever cells -/
theorem rowV_append {P : Program} (t ty : TypeId) (i : TypeInfo) (z : Value) {by1 : Nat} (ht : P.underlying t = some (.slice e)) (hi : P.info? e = some i) (hz : i.zero = some z) (hs : i.size = k) (hby : i.bytes = by1) (hzs : z.cells.size = k) (hk : 0 < k)
    (h : RowV w e k v n cs o) {a : Addr} {m c : Nat} {news : List Value} (hl : news.length = m * k) (hnews : ∀ j u, news[j]? = some u → w.cell? (a.add j) = some u) (h1 : ∀ u ∈ news, u.oneCell' = true) (hm : 0 < m) (hmax : n + m ≤ maxLen) (hb : (n + m) * by1 ≤ 140737488355328) :
    ∃ v' w' g', (Builtin.append_ #[t, t] ty #[v, .slice (some a) m c]).run P w = .ok v' w' ∧ RowV w' e k v' (n + m) (cs ++ news) (some g') ∧ (o = some g' ∨ w.heap.size ≤ g') ∧ Keep (fun k => o = some k) w w' := by
  obtain ⟨hlc, ⟨rfl, rfl, rfl⟩ | ⟨g, cap, cur, rfl, rfl, h2, h3, h4, h5, h6⟩⟩ := h
  · obtain rfl : cs = [] := List.eq_nil_of_length_eq_zero (by simpa using hlc)
    obtain ⟨v', w', r1, r2, r3, r4⟩ := run_append_own (P := P) w w.heap.size t ty e i z k by1 ht hi hz hs hby hzs hk (.slice none 0 0) 0 [] (World.ownsRow_nil w _ e k) a m c news hl hnews h1 hmax hb (Nat.le_refl _)
    obtain ⟨o', q1, q2, q3⟩ := RowV.of_owns r2
    obtain ⟨g', rfl⟩ := q3 (by omega)
    exact ⟨v', w', g', r1, q1, .inr (q2 g' rfl).1, Keep.of_grown r3 (fun g hg => by simp [Value.ownBlock] at hg)⟩
  · by_cases hroom : n + m ≤ cap
    · subst hs
      have hfit : (n + m) * i.size ≤ cap * i.size := Nat.mul_le_mul_right _ hroom
      rw [Nat.add_mul] at hfit
      have hlt : ∀ j, j < news.length → 0 + n * i.size + j < cur.size := by intro j hj; omega
      have hr := run_append_room_cells (P := P) w t ty e i ht hi g 0 n cap a m c news hl hnews h1 hroom
        (fun j hj => by rw [h2.cell, Array.getElem?_eq_getElem (hlt j hj)]; rfl) (fun j _ => h2.free _)
      refine ⟨_, _, g, hr, ⟨?_, .inr ⟨g, cap, (cur.toList.take (n * i.size) ++ news ++ cur.toList.drop (n * i.size + news.length)).toArray, rfl, rfl, ?_, hroom, ?_, h5, ?_⟩⟩, .inl rfl, Keep.setCells (X := fun k => some g = some k) (.inl rfl) _ _ (Keep.refl _ _)⟩
      · rw [List.length_append, hlc, hl, Nat.add_mul]
      · rw [show 0 + n * i.size = n * i.size from by omega]
        exact h2.setMid (n * i.size) news (by omega)
      · simp; omega
      · rw [List.toList_toArray, Nat.add_mul, ← hl, take_setCells _ _ _ (by simp; omega), h6]
    · obtain ⟨v', w', r1, r2, r3⟩ := run_append_arg_grows (P := P) w t ty e i z k by1 ht hi hz hs hby hzs hk ⟨g, 0, none⟩ n cap cs hlc
        (fun j u hu => by
          have hj : j < n * k := by have := (List.getElem?_eq_some_iff.1 hu).1; omega
          rw [Addr.add_lit, Nat.zero_add, h2.cell, ← hu, ← h6, List.getElem?_take, if_pos hj]; simp)
        a m c news hl hnews (by omega) hmax hb
      obtain ⟨o', q1, q2, q3⟩ := RowV.of_owns r2
      obtain ⟨g', rfl⟩ := q3 (by omega)
      exact ⟨v', w', g', r1, q1, .inr (q2 g' rfl).1, Keep.of_grown r3 (fun g hg => by cases hg)⟩
/-- ONE element of one cell, laid in a block of its own first, as 'append(xs, x)' does -/
theorem rowV_append1 {P : Program} (t ty : TypeId) (i : TypeInfo) (z : Value) {by1 : Nat} (ht : P.underlying t = some (.slice e)) (hi : P.info? e = some i) (hz : i.zero = some z) (hs : i.size = 1) (hby : i.bytes = by1) (hzs : z.cells.size = 1)
    (h : RowV w e 1 v n cs o) (u : Value) (hu : u.oneCell' = true) (hmax : n + 1 ≤ maxLen) (hb : (n + 1) * by1 ≤ 140737488355328) :
    ∃ g' cap' w', (Builtin.append_ #[t, t] ty #[v, .slice (some ⟨w.heap.size, 0, none⟩) 1 1]).run P (w.alloc (.cells #[u] e)) = .ok (.slice (some ⟨g', 0, none⟩) (n + 1) cap') w' ∧ RowV w' e 1 (.slice (some ⟨g', 0, none⟩) (n + 1) cap') (n + 1) (cs ++ [u]) (some g') ∧ (o = some g' ∨ w.heap.size ≤ g') ∧ Keep (fun k => o = some k) w w' := by
  have h' := h.keep (X := fun _ => False) ((Keep.refl _ w).alloc (.cells #[u] e)) (fun _ _ h => h)
  obtain ⟨v', w', g', r1, r2, r3, r4⟩ := rowV_append (P := P) t ty i z ht hi hz hs hby hzs (by decide) h' (a := ⟨w.heap.size, 0, none⟩) (m := 1) (c := 1) (news := [u]) rfl (fun j x hx => by
    match j, hx with
    | 0, hx => cases hx; rw [Addr.add_lit, (Blk.new w #[u] e).cell]; rfl
    | j + 1, hx => simp at hx) (by simpa using hu) (by decide) hmax hb
  obtain ⟨p, cap', rfl, _, _, ⟨_, h0, _, _⟩ | ⟨g2, h2, rfl, _⟩⟩ := r2.form
  · omega
  · cases h2
    exact ⟨g', cap', w', r1, r2, r3.imp id (fun h => by simp at h; omega), ((Keep.refl _ w).alloc _).trans r4⟩
end
end Go.Proofs.YtbjbjgfjaopibaaGreatDoor
end

section
/- Rows of elements of one cell: a row with room; slices in a slice. No program in sight. -/
namespace Go.Proofs.YtbjbjgfjaopibaaGreatDoor
open Go Go.RowKit

/-- 'append(nil[:0], make(n)..)': a row of noughts, cut to nothing, has room -/
theorem run_append_room_nil {P : Program} (w : World) (t tn ty e : TypeId) (i : TypeInfo) (z : Value) (ht : P.underlying t = some (.slice e)) (htn : P.underlying tn = some (.int .i64)) (hi : P.info? e = some i) (hz : i.zero = some z) (hs : i.size = 1) (hzs : z.cells.size = 1) (n : Nat) (h0 : 0 < n) (hb : n * i.bytes ≤ 140737488355328) (hn : n ≤ 4611686018427387904) :
    ∃ g cap w', (Builtin.append_ #[t, tn] ty #[.slice none 0 0, .int .i64 (n : Int)]).run P w = .ok (.slice (some ⟨g, 0, none⟩) n cap) w' ∧ RowV w' e 1 (.slice (some ⟨g, 0, none⟩) 0 cap) 0 [] (some g) ∧ n ≤ cap ∧ cap ≤ maxLen ∧ w.heap.size ≤ g ∧ Below w.heap.size w w' := by
  have hr := Lib.run_append_grow_zeros w t tn ty e i z .i64 .i64 ht htn hi hz none 0 0 [] (run_firstCells_none w.drew i.size 0 0 0) n h0 (by omega) (by omega) (by omega) (by omega) (growslice_fits (by omega) (by rw [Nat.zero_add]; exact hb))
  rw [Nat.zero_add] at hr
  refine ⟨_, _, _, hr, ⟨by simp, .inr ⟨w.heap.size, _, _, rfl, rfl, Blk.new w.drew _ e, Nat.zero_le _, ?_, ?_, by simp⟩⟩, grownCap_ge _ _ _ _, ?_, Nat.le_refl _, ((Below.refl w.heap.size w).drew).alloc (Nat.le_refl _) _⟩
  · have := grownCap_ge w n 0 e
    simp [Builtin.zeroCells, hzs]
    omega
  · exact grownCap_le_maxLen w n 0 e (by unfold maxLen; omega)
  · exact grownCap_le_maxLen w n 0 e (by unfold maxLen; omega)
def lenL (L : Nat → Nat) : Nat → Nat
  | 0 => 0
  | n + 1 => lenL L n + L n
def catL (cs : Nat → List Value) : Nat → List Value
  | 0 => []
  | n + 1 => catL cs n ++ cs n
theorem lenL_mono (L : Nat → Nat) {a b : Nat} (h : a ≤ b) : lenL L a ≤ lenL L b := by
  induction h with
  | refl => exact Nat.le_refl _
  | step _ ih => exact Nat.le_trans ih (Nat.le_add_right _ _)
/-- n slices in a slice, each of elements of one cell -/
def CatIn (w : World) (q : Option Addr) (n : Nat) (A : Nat → Option Addr) (L C : Nat → Nat) (cs : Nat → List Value) : Prop :=
  ∀ i, i < n → ∃ b o, q = some ⟨b, o, none⟩ ∧ w.cell? ⟨b, o + i, none⟩ = some (.slice (A i) (L i) (C i)) ∧ (cs i).length = L i ∧ (∀ u ∈ cs i, u.oneCell' = true) ∧ (0 < L i → ∃ pb po, A i = some ⟨pb, po, none⟩ ∧ ∀ j u, (cs i)[j]? = some u → w.cell? ⟨pb, po + j, none⟩ = some u)
theorem CatIn.below {w w' : World} {q : Option Addr} {n : Nat} {A : Nat → Option Addr} {L C : Nat → Nat} {cs : Nat → List Value} (h : CatIn w q n A L C cs) (hb : Below w.heap.size w w') : CatIn w' q n A L C cs := fun i hi => by
  obtain ⟨b, o, h1, h2, h3, h4, h5⟩ := h i hi
  refine ⟨b, o, h1, (hb.cell (p := ⟨b, o + i, none⟩) (cell_lt h2)).trans h2, h3, h4, fun h0 => ?_⟩
  obtain ⟨pb, po, e1, e2⟩ := h5 h0
  exact ⟨pb, po, e1, fun j u hu => (hb.cell (p := ⟨pb, po + j, none⟩) (cell_lt (e2 j u hu))).trans (e2 j u hu)⟩
/-- append onto a row, also of nothing -/
theorem rowV_appendN {P : Program} {w : World} {e : TypeId} {v : Value} {n : Nat} {cs : List Value} {o : Option Nat} (t ty : TypeId) (i : TypeInfo) (z : Value) {by1 : Nat} (ht : P.underlying t = some (.slice e)) (hi : P.info? e = some i) (hz : i.zero = some z) (hs : i.size = 1) (hby : i.bytes = by1) (hzs : z.cells.size = 1)
    (h : RowV w e 1 v n cs o) {p : Option Addr} {m c : Nat} {news : List Value} (hl : news.length = m) (h1 : ∀ u ∈ news, u.oneCell' = true) (hp : 0 < m → ∃ pb po, p = some ⟨pb, po, none⟩ ∧ ∀ j u, news[j]? = some u → w.cell? ⟨pb, po + j, none⟩ = some u) (hmax : n + m ≤ maxLen) (hb : (n + m) * by1 ≤ 140737488355328) :
    ∃ v' w' o', (Builtin.append_ #[t, t] ty #[v, .slice p m c]).run P w = .ok v' w' ∧ RowV w' e 1 v' (n + m) (cs ++ news) o' ∧ (o' = o ∨ ∃ g', o' = some g' ∧ w.heap.size ≤ g') ∧ Keep (fun k => o = some k) w w' := by
  by_cases h0 : 0 < m
  · obtain ⟨pb, po, rfl, hc⟩ := hp h0
    obtain ⟨v', w', g', r1, r2, r3, r4⟩ := rowV_append (P := P) t ty i z ht hi hz hs hby hzs (by decide) h (a := ⟨pb, po, none⟩) (m := m) (c := c) (news := news) (by omega) (fun j u hu => by rw [Addr.add_lit]; exact hc j u hu) h1 h0 hmax hb
    exact ⟨v', w', some g', r1, r2, r3.imp (fun h => h.symm) (fun h => ⟨g', rfl, h⟩), r4⟩
  · obtain rfl : m = 0 := by omega
    obtain rfl : news = [] := List.eq_nil_of_length_eq_zero hl
    obtain ⟨q, c2, rfl, hle, hc2, _⟩ := h.form
    refine ⟨_, w, o, ?_, by rw [List.append_nil]; exact h, .inl rfl, Keep.refl _ _⟩
    cases q <;> cases p <;> simp [Builtin.append_, run_underlying ht, sizeOf, typeInfo, hi, Builtin.lenOf, hle, Builtin.firstCells, loadCells, loadCellsFrom, storeCells]
theorem own_step {w0 w w' : World} {G : Nat} {o o' : Option Nat} (hG : w0.heap.size = G) (hb : Below G w0 w) (ho : ∀ g, o = some g → G ≤ g) (h : o' = o ∨ ∃ g', o' = some g' ∧ w.heap.size ≤ g') (hk : Keep (fun k => o = some k) w w') : (∀ g, o' = some g → G ≤ g) ∧ Below G w0 w' := by
  subst hG
  refine ⟨fun g hg => ?_, hb.trans (hk.below hb.size (fun k hk => ho k hk))⟩
  rcases h with h | ⟨g', h1, h2⟩
  · exact ho g (h ▸ hg)
  · rw [h1] at hg; cases hg; have := hb.size; omega
end Go.Proofs.YtbjbjgfjaopibaaGreatDoor
end

section
/- Counts' bytes, the document's: Low, Encode. -/
namespace Go.Proofs.YtbjbjgfjaopibaaGreatDoor
open Go Go.RowKit
set_option linter.unusedSimpArgs false
set_option linter.unusedVariables false
set_option maxRecDepth 100000

/-- ONE byte behind a row, laid in a block of its own first -/
theorem row_snoc {P : Program} {w : World} {e : TypeId} {v : Value} {xs : List Int} {o : Option Nat} (t ty : TypeId) (i : TypeInfo) (z : Value) (ht : P.underlying t = some (.slice e)) (hi : P.info? e = some i) (hz : i.zero = some z) (hs : i.size = 1) (hby : i.bytes = 1) (hzs : z.cells.size = 1)
    (h : Row w e v xs o) (u : Int) (hb : xs.length + 1 ≤ 140737488355328) :
    ∃ p' c' w' o', (Builtin.append_ #[t, t] ty #[v, .slice (some ⟨w.heap.size, 0, none⟩) 1 1]).run P (w.alloc (.cells #[.int .u8 u] e)) = .ok (.slice p' (xs.length + 1) c') w' ∧ Row w' e (.slice p' (xs.length + 1) c') (xs ++ [u]) o' ∧ (o' = o ∨ ∃ g', o' = some g' ∧ w.heap.size ≤ g') ∧ Keep (fun k => o = some k) w w' := by
  have h' := h.keep (X := fun _ => False) ((Keep.refl _ w).alloc (.cells #[.int .u8 u] e)) (fun _ _ h => h)
  obtain ⟨v', w', o', r1, r2, r3, r4⟩ := row_appendL (P := P) t ty i z ht hi hz hs hby hzs h' (p := some ⟨w.heap.size, 0, none⟩) (c := 1) (ys := [u]) (Lib.BytesIn.of_cells fun j hj => by
    match j, hj with
    | 0, _ => rw [Addr.add_lit, (Blk.new w #[.int .u8 u] e).cell]; rfl
    | j + 1, hj => simp at hj) (by simpa using hb)
  obtain ⟨p, cap', rfl, _⟩ := r2.form
  rw [show (xs ++ [u]).length = xs.length + 1 from by simp] at r1 r2
  exact ⟨p, cap', w', o', r1, r2, r3.imp id (fun ⟨g', h1, h2⟩ => ⟨g', h1, by simp at h2; omega⟩), ((Keep.refl _ w).alloc _).trans r4⟩
/-- a number in so many bytes, the lowest first -/
def leB (n k : Nat) : List Int := (List.range k).map fun i => ((n / 2 ^ (8 * i) % 256 : Nat) : Int)
theorem leB_length (n k : Nat) : (leB n k).length = k := by simp [leB]
theorem leB_succ (n k : Nat) : leB n k ++ [((n / 2 ^ (8 * k) % 256 : Nat) : Int)] = leB n (k + 1) := by
  unfold leB; rw [List.range_succ, List.map_append]; rfl
def encS (n : Nat) : List Int := if n < 253 then [(n : Int)] else if n ≤ 65535 then 253 :: leB n 2 else if n ≤ 4294967295 then 254 :: leB n 4 else 255 :: leB n 8
theorem u8inf : (Tryz.prog.info? 5).map (fun i => (i.zero, i.size, i.bytes)) = some (some (.int .u8 0), 1, 1) := by kernel_rfl
set_option maxHeartbeats 1600000 in
theorem rlow (n k : Nat) (hn : n < 18446744073709551616) (hk : k ≤ 8) (w : World) : Calls Tryz.prog 73 #[.int .u64 (n : Int), .int .i64 (k : Int)] w fun e w' => ∃ p c o, e = .returned (.slice p k c) ∧ Row w' 5 (.slice p k c) (leB n k) o ∧ (∀ g, o = some g → w.heap.size ≤ g) ∧ Below w.heap.size w w' := by
  obtain ⟨i0, hi, hz0, hz1, hz2⟩ := info_parts u8inf
  have HI := Lib.hid (And.intro hi (And.intro hz0 (And.intro hz1 hz2)))
  clear hi hz0 hz1 hz2
  go_enter Tryz.func73, Tryz.ntmps73
  go_wp2
  generalize hgw : w.heap.size = G at *
  go_loopg [5, 8] k (fun gh v i wx => ∃ (j : Nat) (p : Option Addr) (c : Nat) (o : Option Nat), j ≤ k ∧ v = .slice p j c ∧ i = .int .i64 (j : Int) ∧ gh = k - j ∧ Hid (Row wx 5 (.slice p j c) (leB n j) o ∧ (∀ g, o = some g → G ≤ g) ∧ Below G w wx))
  case atStart => exact ⟨0, none, 0, none, Nat.zero_le _, rfl, rfl, rfl, Row.nil _ _, fun g hg => (by cases hg), by rw [← hgw]; exact Below.refl _ _⟩
  case round =>
    obtain ⟨j, p, c, o, hj, rfl, rfl, hg, HR⟩ := hrel
    have HGK := Lib.hid hg
    clear hg
    by_cases hlt : j < k
    · have a2 : IntKind.i64.wrap (8 * (j : Int)) = 8 * (j : Int) := by rw [IntKind.wrap_i64]; omega
      obtain ⟨p3, c3, w3, o3, run3, R3, ho3, k3⟩ := row_snoc (P := Tryz.prog) 22 22 i0 (.int .u8 0) Tryz.underlying22 HI.out.1 HI.out.2.1 HI.out.2.2.1 HI.out.2.2.2 rfl (v := .slice p j c) (xs := leB n j) HR.out.1 ((n : Int) / 2 ^ (8 * j) % 256) (by rw [leB_length]; omega)
      rw [leB_length] at run3 R3
      rw [show ((n : Int) / 2 ^ (8 * j) % 256) = ((n / 2 ^ (8 * j) % 256 : Nat) : Int) from by simp, leB_succ] at R3
      have H3 := Lib.hid (And.intro R3 (own_step hgw HR.out.2.2 HR.out.2.1 ho3 k3))
      clear R3 ho3 k3
      go_wp2_with (at_builtin; refine wpl_append rfl _ _ 22 rfl rfl rfl run3 ?_)
      go_roundg (k - (j + 1))
      case measure => rw [HGK.out]; omega
      case rel => exact ⟨j + 1, p3, c3, o3, hlt, rfl, rfl, rfl, H3.out⟩
    · obtain rfl : j = k := by omega
      subst hgw
      go_wp2
      go_ret
      exact ⟨p, c, o, rfl, HR.out⟩
theorem encS_1 {n : Nat} (h : n < 253) : encS n = [(n : Int)] := if_pos h
theorem encS_3 {n : Nat} (h : ¬ n < 253) (h2 : n ≤ 65535) : encS n = 253 :: leB n 2 := by unfold encS; rw [if_neg h, if_pos h2]
theorem encS_5 {n : Nat} (h : ¬ n < 253) (h2 : ¬ n ≤ 65535) (h3 : n ≤ 4294967295) : encS n = 254 :: leB n 4 := by unfold encS; rw [if_neg h, if_neg h2, if_pos h3]
theorem encS_9 {n : Nat} (h : ¬ n < 253) (h2 : ¬ n ≤ 65535) (h3 : ¬ n ≤ 4294967295) : encS n = 255 :: leB n 8 := by unfold encS; rw [if_neg h, if_neg h2, if_neg h3]
theorem renc1 (n : Nat) (hn : n < 253) (w : World) : Calls Tryz.prog 69 #[.int .u64 (n : Int)] w fun e w' => ∃ p c o, e = .returned (.slice p 1 c) ∧ Row w' 5 (.slice p 1 c) [(n : Int)] o ∧ (∀ g, o = some g → w.heap.size ≤ g) ∧ Below w.heap.size w w' := by
  have h1 : (n : Int) < 253 := by omega
  have R0 : Row (w.alloc (.cells #[.int .u8 (n : Int)] 5)) 5 (.slice (some ⟨w.heap.size, 0, none⟩) 1 1) [(n : Int)] (some w.heap.size) :=
    .inr ⟨w.heap.size, 1, #[.int .u8 (n : Int)], rfl, rfl, Blk.new _ _ _, Nat.le_refl _, Nat.le_refl _, (by decide), rfl⟩
  have HR := Lib.hid R0
  clear R0
  go_enter Tryz.func69, Tryz.ntmps69
  go_wp2
  go_ret
  exact ⟨_, _, some w.heap.size, rfl, HR.out, fun g hg => (by cases hg; exact Nat.le_refl _), (Below.refl _ _).alloc (Nat.le_refl _) _⟩
set_option maxHeartbeats 1600000 in
theorem renc3 (n : Nat) (hn : n < 18446744073709551616) (h1 : ¬ n < 253) (h2 : n ≤ 65535) (w : World) : Calls Tryz.prog 69 #[.int .u64 (n : Int)] w fun e w' => ∃ p c o, e = .returned (.slice p (2 + 1) c) ∧ Row w' 5 (.slice p (2 + 1) c) (253 :: leB n 2) o ∧ (∀ g, o = some g → w.heap.size ≤ g) ∧ Below w.heap.size w w' := by
  obtain ⟨i0, hi, hz0, hz1, hz2⟩ := info_parts u8inf
  have PL := Lib.hid (rlow n 2 hn (by decide) (w.alloc (.cells #[.int .u8 253] 5)))
  have R0 : Row (w.alloc (.cells #[.int .u8 253] 5)) 5 (.slice (some ⟨w.heap.size, 0, none⟩) 1 1) [253] (some w.heap.size) :=
    .inr ⟨w.heap.size, 1, #[.int .u8 253], rfl, rfl, Blk.new _ _ _, Nat.le_refl _, Nat.le_refl _, (by decide), rfl⟩
  have HR := Lib.hid R0
  have d1 : decide ((n : Int) < 253) = false := decide_eq_false (by omega); have d2 : decide ((n : Int) ≤ 65535) = true := decide_eq_true (by omega)
  clear R0 hn h1 h2
  go_enter Tryz.func69, Tryz.ntmps69
  go_wp2_with fail
  refine PL.out.mono ?_
  rintro e w1 ⟨p1, c1, o1, rfl, R1, ho1, hb1⟩
  have R2 := HR.out.keep (Keep.of_below (X := fun _ => False) hb1) (fun _ _ h => h)
  obtain ⟨_, _, e1, hy, _⟩ := R1.form
  cases e1
  rw [leB_length] at hy
  obtain ⟨v2, w2, o2, run2, R3, ho2, k2⟩ := row_appendL (P := Tryz.prog) 22 22 i0 (.int .u8 0) Tryz.underlying22 hi hz0 hz1 hz2 rfl R2 (p := p1) (c := c1) (ys := leB n 2) (by rw [leB_length]; exact hy) (by rw [leB_length]; decide)
  have hbw : Below w.heap.size w w1 := ((Below.refl w.heap.size w).alloc (Nat.le_refl _) _).trans (hb1.mono (by simp))
  have H2 := Lib.hid (own_step rfl hbw (fun g hg => by cases hg; exact Nat.le_refl _) ho2 k2)
  rw [leB_length] at run2
  obtain ⟨p2, c2, rfl, _⟩ := R3.form
  have HR3 := Lib.hid R3
  clear R1 R2 R3 ho1 hb1 hbw hy ho2 k2
  go_wp2_with (at_builtin; refine wpl_append rfl _ _ 22 rfl rfl rfl run2 ?_)
  go_ret
  have hl : ([253] ++ leB n 2).length = 2 + 1 := by rw [List.length_append, leB_length]; rfl
  have R4 := HR3.out
  rw [hl] at R4
  exact ⟨p2, c2, o2, congrArg (fun m => Ending.returned (.slice p2 m c2)) hl, R4, H2.out⟩
set_option maxHeartbeats 1600000 in
theorem renc5 (n : Nat) (hn : n < 18446744073709551616) (h1 : ¬ n ≤ 65535) (h2 : n ≤ 4294967295) (w : World) : Calls Tryz.prog 69 #[.int .u64 (n : Int)] w fun e w' => ∃ p c o, e = .returned (.slice p (4 + 1) c) ∧ Row w' 5 (.slice p (4 + 1) c) (254 :: leB n 4) o ∧ (∀ g, o = some g → w.heap.size ≤ g) ∧ Below w.heap.size w w' := by
  obtain ⟨i0, hi, hz0, hz1, hz2⟩ := info_parts u8inf
  have PL := Lib.hid (rlow n 4 hn (by decide) (w.alloc (.cells #[.int .u8 254] 5)))
  have R0 : Row (w.alloc (.cells #[.int .u8 254] 5)) 5 (.slice (some ⟨w.heap.size, 0, none⟩) 1 1) [254] (some w.heap.size) :=
    .inr ⟨w.heap.size, 1, #[.int .u8 254], rfl, rfl, Blk.new _ _ _, Nat.le_refl _, Nat.le_refl _, (by decide), rfl⟩
  have HR := Lib.hid R0
  have d1 : decide ((n : Int) < 253) = false := decide_eq_false (by omega); have d2 : decide ((n : Int) ≤ 65535) = false := decide_eq_false (by omega); have d3 : decide ((n : Int) ≤ 4294967295) = true := decide_eq_true (by omega)
  clear R0 hn h1 h2
  go_enter Tryz.func69, Tryz.ntmps69
  go_wp2_with fail
  refine PL.out.mono ?_
  rintro e w1 ⟨p1, c1, o1, rfl, R1, ho1, hb1⟩
  have R2 := HR.out.keep (Keep.of_below (X := fun _ => False) hb1) (fun _ _ h => h)
  obtain ⟨_, _, e1, hy, _⟩ := R1.form
  cases e1
  rw [leB_length] at hy
  obtain ⟨v2, w2, o2, run2, R3, ho2, k2⟩ := row_appendL (P := Tryz.prog) 22 22 i0 (.int .u8 0) Tryz.underlying22 hi hz0 hz1 hz2 rfl R2 (p := p1) (c := c1) (ys := leB n 4) (by rw [leB_length]; exact hy) (by rw [leB_length]; decide)
  have hbw : Below w.heap.size w w1 := ((Below.refl w.heap.size w).alloc (Nat.le_refl _) _).trans (hb1.mono (by simp))
  have H2 := Lib.hid (own_step rfl hbw (fun g hg => by cases hg; exact Nat.le_refl _) ho2 k2)
  rw [leB_length] at run2
  obtain ⟨p2, c2, rfl, _⟩ := R3.form
  have HR3 := Lib.hid R3
  clear R1 R2 R3 ho1 hb1 hbw hy ho2 k2
  go_wp2_with (at_builtin; refine wpl_append rfl _ _ 22 rfl rfl rfl run2 ?_)
  go_ret
  have hl : ([254] ++ leB n 4).length = 4 + 1 := by rw [List.length_append, leB_length]; rfl
  have R4 := HR3.out
  rw [hl] at R4
  exact ⟨p2, c2, o2, congrArg (fun m => Ending.returned (.slice p2 m c2)) hl, R4, H2.out⟩
set_option maxHeartbeats 1600000 in
theorem renc9 (n : Nat) (hn : n < 18446744073709551616) (h2 : ¬ n ≤ 4294967295) (w : World) : Calls Tryz.prog 69 #[.int .u64 (n : Int)] w fun e w' => ∃ p c o, e = .returned (.slice p (8 + 1) c) ∧ Row w' 5 (.slice p (8 + 1) c) (255 :: leB n 8) o ∧ (∀ g, o = some g → w.heap.size ≤ g) ∧ Below w.heap.size w w' := by
  obtain ⟨i0, hi, hz0, hz1, hz2⟩ := info_parts u8inf
  have PL := Lib.hid (rlow n 8 hn (by decide) (w.alloc (.cells #[.int .u8 255] 5)))
  have R0 : Row (w.alloc (.cells #[.int .u8 255] 5)) 5 (.slice (some ⟨w.heap.size, 0, none⟩) 1 1) [255] (some w.heap.size) :=
    .inr ⟨w.heap.size, 1, #[.int .u8 255], rfl, rfl, Blk.new _ _ _, Nat.le_refl _, Nat.le_refl _, (by decide), rfl⟩
  have HR := Lib.hid R0
  have d1 : decide ((n : Int) < 253) = false := decide_eq_false (by omega); have d2 : decide ((n : Int) ≤ 65535) = false := decide_eq_false (by omega); have d3 : decide ((n : Int) ≤ 4294967295) = false := decide_eq_false (by omega)
  clear R0 hn h2
  go_enter Tryz.func69, Tryz.ntmps69
  go_wp2_with fail
  refine PL.out.mono ?_
  rintro e w1 ⟨p1, c1, o1, rfl, R1, ho1, hb1⟩
  have R2 := HR.out.keep (Keep.of_below (X := fun _ => False) hb1) (fun _ _ h => h)
  obtain ⟨_, _, e1, hy, _⟩ := R1.form
  cases e1
  rw [leB_length] at hy
  obtain ⟨v2, w2, o2, run2, R3, ho2, k2⟩ := row_appendL (P := Tryz.prog) 22 22 i0 (.int .u8 0) Tryz.underlying22 hi hz0 hz1 hz2 rfl R2 (p := p1) (c := c1) (ys := leB n 8) (by rw [leB_length]; exact hy) (by rw [leB_length]; decide)
  have hbw : Below w.heap.size w w1 := ((Below.refl w.heap.size w).alloc (Nat.le_refl _) _).trans (hb1.mono (by simp))
  have H2 := Lib.hid (own_step rfl hbw (fun g hg => by cases hg; exact Nat.le_refl _) ho2 k2)
  rw [leB_length] at run2
  obtain ⟨p2, c2, rfl, _⟩ := R3.form
  have HR3 := Lib.hid R3
  clear R1 R2 R3 ho1 hb1 hbw hy ho2 k2
  go_wp2_with (at_builtin; refine wpl_append rfl _ _ 22 rfl rfl rfl run2 ?_)
  go_ret
  have hl : ([255] ++ leB n 8).length = 8 + 1 := by rw [List.length_append, leB_length]; rfl
  have R4 := HR3.out
  rw [hl] at R4
  exact ⟨p2, c2, o2, congrArg (fun m => Ending.returned (.slice p2 m c2)) hl, R4, H2.out⟩
/-- Encode -/
theorem renc (n : Nat) (hn : n < 18446744073709551616) (w : World) : Calls Tryz.prog 69 #[.int .u64 (n : Int)] w fun e w' => ∃ p c o, e = .returned (.slice p (encS n).length c) ∧ Row w' 5 (.slice p (encS n).length c) (encS n) o ∧ (∀ g, o = some g → w.heap.size ≤ g) ∧ Below w.heap.size w w' := by
  by_cases h1 : n < 253
  · rw [encS_1 h1]; exact renc1 n h1 w
  · by_cases h2 : n ≤ 65535
    · rw [encS_3 h1 h2, List.length_cons, leB_length]; exact renc3 n hn h1 h2 w
    · by_cases h3 : n ≤ 4294967295
      · rw [encS_5 h1 h2 h3, List.length_cons, leB_length]; exact renc5 n hn h2 h3 w
      · rw [encS_9 h1 h2 h3, List.length_cons, leB_length]; exact renc9 n hn h3 w
end Go.Proofs.YtbjbjgfjaopibaaGreatDoor
end
