import Derived.Deep.RegionHeld3
import Derived.WalkKit
import Derived.Test.YtppcccocnmhbgaaRows
import Derived.Test.YtppcccocnmhbgaaFl4
import Derived.Test.YtppcccocnmhbgaaFl5
import Derived.Deep.LoopGhost
import Derived.Maps.OwnSet
import Derived.ProofKit
import Derived.OpenShut
import Derived.ShutString
import Derived.Laws.StructEq
section
/- A region that draws its order, with a condition S on the world that holds till ALL have come up: so its last operation may write what the others read. The steps are OrdersHeld's, S being asked no more at the end. -/
namespace Go.Proofs.Ytppcccocnmhbgaa
open Go

section
variable {P : Program} {ops : Array Oper} {Q : Exit → Act → World → Prop} {md : Region.Mode} {S : World → Prop}

/-- whatever order is picked from here on, and S holds behind every operation but number z -/
def wpAnyL (P : Program) (md : Region.Mode) (ops : Array Oper) (Q : Exit → Act → World → Prop) (S : World → Prop) (z : Nat) : Nat → Array Bool → Act → World → Prop
  | 0, listed, a, w => Region.ready md ops listed = [] ∧ Q .normal a w
  | fuel + 1, listed, a, w =>
    (Region.ready md ops listed = [] → Q .normal a w) ∧
    ∀ i ∈ Region.ready md ops listed, wpOp P ops Q i (fun a' w' => (i = z ∨ S w') ∧ wpAnyL P md ops Q S z fuel (listed.setIfInBounds i true) a' w') a w

variable {z : Nat}

theorem wpAny_of_L : ∀ (fuel : Nat) (listed : Array Bool) (a : Act) (w : World), wpAnyL P md ops Q S z fuel listed a w → wpAny P md ops Q fuel listed a w
  | 0, _, _, _, h => h
  | fuel + 1, _, _, _, h => ⟨h.1, fun i hi => wpOp_mono (fun a' w' h' => wpAny_of_L fuel _ a' w' h'.2) (h.2 i hi)⟩

/-- does operation z wait for operation i? -/
def waits (md : Region.Mode) (ops : Array Oper) (z i : Nat) : Bool := ((ops[z]?).map fun o => o.after.any fun e => Region.binds md e && e.on == i).getD false
theorem waits_spec {i : Nat} {o : Oper} (ho : ops[z]? = some o) (h : waits md ops z i = true) : ∃ e ∈ o.after, Region.binds md e = true ∧ e.on = i := by
  unfold waits at h
  rw [ho] at h
  simp only [Option.map_some, Option.getD_some, Array.any_eq_true] at h
  obtain ⟨k, hk, h⟩ := h
  rw [Bool.and_eq_true, beq_iff_eq] at h
  exact ⟨o.after[k], Array.getElem_mem hk, h.1, h.2⟩

theorem wpAnyL_first {i : Nat} {oi : Oper} {v : Value} (hi : ops[i]? = some oi) (hsel : ∀ (j : Nat) (o : Oper) cs b, ops[j]? = some o → o.op ≠ .select cs b)
    (hQ : ∀ c a w, Q (.panic c) (a.put oi.dst v) w → Q (.panic c) a w) (hz : waits md ops z i = true) :
    ∀ (fuel : Nat) (listed : Array Bool) (a : Act) (w : World),
      (∀ j oj, ops[j]? = some oj → j ≠ i → listed.getD j true = false → (∀ e ∈ oj.after, Region.binds md e = true → e.on ≠ i) → oi.apart ops oj = true) →
      i ∈ Region.ready md ops listed → YieldsIf P ops S oi v a → S w →
      wpAnyL P md ops Q S z fuel (listed.setIfInBounds i true) (a.put oi.dst v) w → wpAnyL P md ops Q S z (fuel + 1) listed a w := by
  intro fuel
  induction fuel with
  | zero =>
    intro listed a w _ hr hy hS H
    refine ⟨fun h => (by rw [h] at hr; cases hr), fun j hj => ?_⟩
    by_cases hji : j = i
    · subst hji; exact hy.wpOp hi hS ⟨.inr hS, H⟩
    · have := ready_mono hj hji
      rw [H.1] at this
      cases this
  | succ fuel ih =>
    intro listed a w hfree hr hy hS H
    refine ⟨fun h => (by rw [h] at hr; cases hr), fun j hj => ?_⟩
    by_cases hji : j = i
    · subst hji; exact hy.wpOp hi hS ⟨.inr hS, H⟩
    · have h1 := H.2 j (ready_mono hj hji)
      obtain ⟨hjun, oj, hoj, hall⟩ := mem_ready.1 hj
      have hiun := (mem_ready.1 hr).1
      have hnot : ∀ e ∈ oj.after, Region.binds md e = true → e.on ≠ i := fun e he hb heq => by
        have h1 := hall e he hb
        rw [heq] at h1
        rcases Nat.lt_or_ge i listed.size with h' | h'
        · simp [h'] at hiun h1; rw [hiun] at h1; cases h1
        · simp [Array.getElem?_eq_none h'] at h1
      have h2 := wpOp_putIf hoj (hfree j oj hoj hji hjun hnot) (fun cs b => hsel i oi cs b hi) (fun cs b => hsel j oj cs b hoj) hQ hy h1
      have hfree' : ∀ k ok, ops[k]? = some ok → k ≠ i → (listed.setIfInBounds j true).getD k true = false →
          (∀ e ∈ ok.after, Region.binds md e = true → e.on ≠ i) → oi.apart ops ok = true := fun k ok hk hki hun hno => by
        refine hfree k ok hk hki ?_ hno
        by_cases hjk : j = k
        · subst hjk; exact hjun
        · rw [getD_set_ne true hjk] at hun; exact hun
      refine wpOp_mono (fun a' w' h3 => ?_) h2
      have hSw : S w' := by
        rcases h3.2.1 with rfl | hSw
        · obtain ⟨e, he, hb, heq⟩ := waits_spec hoj hz
          exact absurd heq (hnot e he hb)
        · exact hSw
      refine ⟨.inr hSw, ih (listed.setIfInBounds j true) a' w' hfree' (ready_mono hr (Ne.symm hji)) h3.1 hSw ?_⟩
      rw [Array.setIfInBounds_comm _ _ hji]
      exact h3.2.2

/-- number i is taken first -/
theorem wpAnyL_take {i : Nat} {oi : Oper} {v : Value} {fuel : Nat} {listed : Array Bool} {a : Act} {w : World} (hi : ops[i]? = some oi)
    (hs : Region.noSelect ops = true) (hf : Region.free md ops listed i = true) (hr : (Region.ready md ops listed).contains i = true) (hz : waits md ops z i = true)
    (hQ : ∀ c a w, Q (.panic c) (a.put oi.dst v) w → Q (.panic c) a w) (hy : YieldsIf P ops S oi v a) (hS : S w)
    (h : wpAnyL P md ops Q S z fuel (listed.setIfInBounds i true) (a.put oi.dst v) w) : wpAnyL P md ops Q S z (fuel + 1) listed a w :=
  wpAnyL_first hi (Region.noSelect_spec hs) hQ hz fuel listed a w (Region.free_spec hi hf) (by simpa using hr) hy hS h
/-- one alone may come up -/
theorem wpAnyL_one {i : Nat} {oi : Oper} {fuel : Nat} {listed : Array Bool} {a : Act} {w : World} (hi : ops[i]? = some oi) (hr : Region.ready md ops listed = [i])
    (h : ∀ K' : Act → World → Prop, Shut (∀ a' w', (i = z ∨ S w') → wpAnyL P md ops Q S z fuel (listed.setIfInBounds i true) a' w' → K' a' w') →
      if Region.wanted oi (yielded ops a.tmps) = true then oi.wp P a w K' Q else K' (a.put oi.dst undef) w) : wpAnyL P md ops Q S z (fuel + 1) listed a w :=
  ⟨fun h0 => (by rw [hr] at h0; cases h0), fun j hj => by
    rw [hr] at hj
    obtain rfl : j = i := by simpa using hj
    exact wpOp_step hi fun K' hK => h K' fun a' w' hS hW => hK a' w' ⟨hS, hW⟩⟩
theorem wpAnyL_done {listed : Array Bool} {a : Act} {w : World} (hr : Region.ready md ops listed = []) (h : Q .normal a w) : ∀ fuel, wpAnyL P md ops Q S z fuel listed a w
  | 0 => ⟨hr, h⟩
  | _ + 1 => ⟨fun _ => h, by rw [hr]; simp⟩
/-- the beginning: z is the number of the operation behind which S is asked no more -/
theorem wp_region_last {id : Nat} {a : Act} {w : World} (z : Nat) (S : World → Prop) (hm : P.follows .mixedOrders = true) (hS : S w.drew)
    (h : S w.drew → wpAnyL P .any ops Q S z ops.size (Array.replicate ops.size false) a w.drew) : (Code.region id ops true).wp P Q a w :=
  wp_region_any hm (wpAny_of_L _ _ _ _ (h hS))
end
open Go.RowKit
/-- what a region that draws its order holds of the world v in which it began: old cells are as they were, and may be written as before -/
theorem SF.start (v : World) : Below v.heap.size v v.drew ∧ (∀ b o, b < v.heap.size → v.drew.cell? ⟨b, o, none⟩ = v.cell? ⟨b, o, none⟩) ∧ (∀ b o, b < v.heap.size → v.drew.frozen? ⟨b, o, none⟩ = v.frozen? ⟨b, o, none⟩) :=
  ⟨(Below.refl _ _).drew, fun _ _ _ => rfl, fun _ _ _ => rfl⟩
theorem SF.of {v w : World} (hb : Below v.heap.size v w) : Below v.heap.size v w ∧ (∀ b o, b < v.heap.size → w.cell? ⟨b, o, none⟩ = v.cell? ⟨b, o, none⟩) ∧ (∀ b o, b < v.heap.size → w.frozen? ⟨b, o, none⟩ = v.frozen? ⟨b, o, none⟩) :=
  ⟨hb, fun _ _ h => hb.cell (p := ⟨_, _, none⟩) h, fun _ _ h => hb.frozen (p := ⟨_, _, none⟩) h⟩
theorem SF.keep {v w w' : World} (h : Below v.heap.size v w ∧ (∀ b o, b < v.heap.size → w.cell? ⟨b, o, none⟩ = v.cell? ⟨b, o, none⟩) ∧ (∀ b o, b < v.heap.size → w.frozen? ⟨b, o, none⟩ = v.frozen? ⟨b, o, none⟩)) (hb : Below w.heap.size w w') :
    Below v.heap.size v w' ∧ (∀ b o, b < v.heap.size → w'.cell? ⟨b, o, none⟩ = v.cell? ⟨b, o, none⟩) ∧ (∀ b o, b < v.heap.size → w'.frozen? ⟨b, o, none⟩ = v.frozen? ⟨b, o, none⟩) :=
  SF.of (h.1.trans (hb.mono h.1.size))
end Go.Proofs.Ytppcccocnmhbgaa
end

section
/- Bytes as numbers, the lowest first: the document's Number, the closure in filter.under; no object in sight. -/
namespace Go.Proofs.Ytppcccocnmhbgaa
open Go Go.RowKit
set_option linter.unusedSimpArgs false
set_option linter.unusedVariables false
set_option maxRecDepth 100000

theorem leN_take_lt (ys : List Int) (hr : ∀ y ∈ ys, 0 ≤ y ∧ y ≤ 255) (k : Nat) (hk : k ≤ ys.length) : leN (ys.take k) < 256 ^ k := by
  have := leN_lt (ys.take k) (fun y hy => hr y (List.mem_of_mem_take hy))
  rwa [List.length_take, Nat.min_eq_left hk] at this
theorem leN_take_succ (ys : List Int) (k : Nat) (hk : k < ys.length) : leN (ys.take (k + 1)) = leN (ys.take k) + 256 ^ k * (ys.getD k 0).toNat := by
  rw [List.take_succ_eq_append_getElem hk, leN_snoc, List.length_take, Nat.min_eq_left (by omega)]
  congr 2
  rw [List.getD_eq_getElem?_getD, List.getElem?_eq_getElem hk]; rfl
theorem pow256 (k : Nat) : 256 ^ k = 2 ^ (8 * k) := by rw [Nat.pow_mul]
theorem le_or (a k : Nat) (x : Int) (hk : k < 8) (ha : a < 256 ^ k) (h0 : 0 ≤ x) (h1 : x ≤ 255) : bits .or .u64 (a : Int) (IntKind.u64.wrap (x * 2 ^ (8 * k))) = ((a + 256 ^ k * x.toNat : Nat) : Int) := by
  obtain ⟨n, rfl⟩ := Int.eq_ofNat_of_zero_le h0
  have hn : n < 256 := by omega
  rw [pow256] at *
  have hp : 2 ^ (8 * k) * n < 2 ^ 64 := by
    have h2 : 2 ^ (8 * k) * n < 2 ^ (8 * k) * 2 ^ 8 := Nat.mul_lt_mul_of_pos_left hn (Nat.two_pow_pos _)
    rw [← Nat.pow_add] at h2
    exact Nat.lt_of_lt_of_le h2 (Nat.pow_le_pow_right (by decide) (by omega))
  have ha2 : a < 2 ^ 64 := Nat.lt_of_lt_of_le ha (Nat.pow_le_pow_right (by decide) (by omega))
  have e : ((n : Nat) : Int) * 2 ^ (8 * k) = ((2 ^ (8 * k) * n : Nat) : Int) := by rw [Int.natCast_mul, Int.natCast_pow]; exact Int.mul_comm _ _
  show bits .or .u64 (a : Int) (IntKind.u64.wrap (((n : Nat) : Int) * 2 ^ (8 * k))) = ((a + 2 ^ (8 * k) * n : Nat) : Int)
  rw [e, IntWalk.u64_in _ (by omega)]
  rw [show bits .or .u64 (a : Int) ((2 ^ (8 * k) * n : Nat) : Int) = ((a ||| (2 ^ (8 * k) * n) : Nat) : Int) from u64_or_nat _ _ ha2 hp]
  congr 1
  rw [Nat.add_comm a, Nat.two_pow_add_eq_or_of_lt ha, Nat.or_comm]
theorem le_step (ys : List Int) (hr : ∀ y ∈ ys, 0 ≤ y ∧ y ≤ 255) (k : Nat) (hk : k < ys.length) (h8 : ys.length ≤ 8) :
    bits .or .u64 ((leN (ys.take k) : Nat) : Int) (IntKind.u64.wrap (ys.getD k 0 * 2 ^ (8 * k))) = ((leN (ys.take (k + 1)) : Nat) : Int) := by
  have hx : 0 ≤ ys.getD k 0 ∧ ys.getD k 0 ≤ 255 := by
    rw [List.getD_eq_getElem?_getD, List.getElem?_eq_getElem hk]; exact hr _ (List.getElem_mem _)
  rw [leN_take_succ ys k hk]
  exact le_or _ k _ (by omega) (leN_take_lt ys hr k (by omega)) hx.1 hx.2
theorem getD_rng {l : List Int} (h : ∀ y ∈ l, 0 ≤ y ∧ y ≤ 255) (i : Nat) : 0 ≤ l.getD i 0 ∧ l.getD i 0 ≤ 255 := by
  rw [List.getD_eq_getElem?_getD]
  by_cases hi : i < l.length
  · rw [List.getElem?_eq_getElem hi]; exact h _ (List.getElem_mem hi)
  · rw [List.getElem?_eq_none (by omega)]; exact ⟨Int.le_refl 0, by decide⟩
set_option maxHeartbeats 1600000 in
theorem pword (ys : List Int) (q : Option Addr) (c : Nat) (w : World) (hy : Lib.BytesIn w q ys.length ys) (hr : ∀ y ∈ ys, 0 ≤ y ∧ y ≤ 255) (h8 : ys.length ≤ 8) :
    Calls Try.prog 62 #[.slice q ys.length c] w fun e w' => e = .returned (.int .u64 ((leN ys : Nat) : Int)) ∧ w = w' := by
  have HY := Lib.hid hy
  have HR := Lib.hid hr
  have H8 := Lib.hid h8
  obtain ⟨N, hN⟩ : ∃ N, N = ys.length := ⟨_, rfl⟩
  rw [← hN] at HY h8 ⊢
  have HN := Lib.hid hN
  clear hy hr hN
  go_enter Try.func62, Try.ntmps62
  go_wp2
  go_loopg [3, 8] N (fun gh s i wx => ∃ k t : Nat, k ≤ N ∧ s = .int .u64 (t : Int) ∧ i = .int .i64 (k : Int) ∧ gh = N - k ∧ Hid (t = leN (ys.take k)) ∧ wx = w)
  case atStart => exact ⟨0, 0, Nat.zero_le _, rfl, rfl, rfl, by rw [List.take_zero]; rfl, rfl⟩
  case round =>
    obtain ⟨k, t, hk, rfl, rfl, hg, HT, hwx⟩ := hrel
    obtain rfl : w = wr := hwx.symm
    have HGK := Lib.hid hg
    clear hg
    by_cases hlt : k < N
    · obtain ⟨b, o, rfl, hc⟩ := HY.out.at (by omega)
      have cb := hc k hlt
      have hst := le_step ys HR.out k (by rw [← HN.out]; exact hlt) H8.out
      have hx := getD_rng HR.out k
      generalize ys.getD k 0 = x at *
      rw [← HT.out] at hst
      generalize hu : leN (ys.take (k + 1)) = u at *
      have HU := Lib.hid hu
      obtain ⟨hx0, hx1⟩ := hx
      have a2 : IntKind.i64.wrap (8 * (k : Int)) = 8 * (k : Int) := by rw [IntKind.wrap_i64]; omega
      have hux : IntKind.u64.wrap x = x := IntWalk.u64_in _ (by omega)
      clear hc hu
      go_wp2
      go_roundg (N - (k + 1))
      case measure => rw [HGK.out]; omega
      case rel => exact ⟨k + 1, u, hlt, rfl, rfl, rfl, HU.out.symm, rfl⟩
    · obtain rfl : k = N := by omega
      go_wp2
      go_ret
      refine ⟨congrArg (fun n : Nat => Ending.returned (.int .u64 (n : Int))) ?_, rfl⟩
      rw [HT.out, List.take_of_length_le (by rw [HN.out]; exact Nat.le_refl _)]
end Go.Proofs.Ytppcccocnmhbgaa
end

section
/- A slice of elements of any kind, in a block of its own. No program in sight. -/
namespace Go.Proofs.Ytppcccocnmhbgaa
open Go Go.RowKit

/-- v is a slice of n elements of k cells each, the cells cs: nil (o = none), or from the head of block g on (o = some g) -/
def RowV (w : World) (e : TypeId) (k : Nat) (v : Value) (n : Nat) (cs : List Value) (o : Option Nat) : Prop :=
  cs.length = n * k ∧ ((v = .slice none 0 0 ∧ n = 0 ∧ o = none) ∨ ∃ g cap cur, o = some g ∧ v = .slice (some ⟨g, 0, none⟩) n cap ∧ Blk w g cur e ∧ n ≤ cap ∧ cap * k ≤ cur.size ∧ cap ≤ maxLen ∧ cur.toList.take (n * k) = cs)
section
variable {w w' : World} {e : TypeId} {k : Nat} {v : Value} {n : Nat} {cs : List Value} {o : Option Nat} {g : Nat}
theorem RowV.nil (w : World) (e : TypeId) (k : Nat) : RowV w e k (.slice none 0 0) 0 [] none := ⟨by simp, .inl ⟨rfl, rfl, rfl⟩⟩
theorem RowV.keep {X : Nat → Prop} (h : RowV w e k v n cs o) (hk : Keep X w w') (hn : ∀ g, o = some g → ¬ X g) : RowV w' e k v n cs o := by
  obtain ⟨hl, h | ⟨g, cap, cur, h0, h1, h2, h3⟩⟩ := h
  · exact ⟨hl, .inl h⟩
  · exact ⟨hl, .inr ⟨g, cap, cur, h0, h1, hk.blk h2 (hn g h0), h3⟩⟩
theorem RowV.lt (h : RowV w e k v n cs o) : ∀ g, o = some g → g < w.heap.size := by
  intro g hg
  obtain ⟨hl, ⟨_, _, h0⟩ | ⟨g', cap, cur, h0, h1, h2, h3⟩⟩ := h
  · rw [h0] at hg; cases hg
  · rw [h0] at hg; cases hg; exact h2.lt
/-- what it looks like -/
theorem RowV.form (h : RowV w e k v n cs o) : ∃ p c, v = .slice p n c ∧ n ≤ c ∧ c ≤ maxLen ∧ (p = none ∧ n = 0 ∧ c = 0 ∧ o = none ∨ ∃ g, o = some g ∧ p = some ⟨g, 0, none⟩ ∧ g < w.heap.size) := by
  obtain ⟨hl, ⟨rfl, rfl, rfl⟩ | ⟨g, cap, cur, h0, h1, h2, h3, h4, h5, h6⟩⟩ := h
  · exact ⟨none, 0, rfl, Nat.le_refl _, Nat.zero_le _, .inl ⟨rfl, rfl, rfl, rfl⟩⟩
  · exact ⟨_, cap, h1, h3, h5, .inr ⟨g, h0, rfl, h2.lt⟩⟩
/-- one that has elements lies in a block -/
theorem RowV.mem (h : RowV w e k v n cs o) (h0 : 0 < n) : ∃ g cap, o = some g ∧ v = .slice (some ⟨g, 0, none⟩) n cap ∧ n ≤ cap ∧ cap ≤ maxLen ∧ g < w.heap.size ∧ (∀ j, j < n * k → w.cell? ⟨g, j, none⟩ = cs[j]?) ∧ (∀ j, w.frozen? ⟨g, j, none⟩ = false) := by
  obtain ⟨hl, ⟨rfl, rfl, rfl⟩ | ⟨g, cap, cur, h0, h1, h2, h3, h4, h5, h6⟩⟩ := h
  · omega
  · exact ⟨g, cap, h0, h1, h3, h5, h2.lt, fun j hj => by rw [h2.cell, ← h6, List.getElem?_take, if_pos hj]; simp, fun j => h2.free j⟩
/-- a cell of it set -/
theorem RowV.set {cap : Nat} (h : RowV w e k (.slice (some ⟨g, 0, none⟩) n cap) n cs (some g)) (j : Nat) (u : Value) (_ : j < n * k) : RowV (w.setCell ⟨g, j, none⟩ u) e k (.slice (some ⟨g, 0, none⟩) n cap) n (cs.set j u) (some g) := by
  obtain ⟨hl, ⟨h1, _, _⟩ | ⟨g', cap', cur, h0, h1, h2, h3, h4, h5, h6⟩⟩ := h
  · cases h1
  · cases h0; cases h1
    refine ⟨by simp [hl], .inr ⟨g, cap, _, rfl, rfl, h2.set j u, h3, by simpa using h4, h5, ?_⟩⟩
    rw [← h6]; simp [List.take_set]
theorem RowV.toRow {xs : List Int} (h : RowV w e 1 v n (u8s xs) o) : Row w e v xs o := by
  obtain ⟨hl, h⟩ := h
  rw [u8s_length, Nat.mul_one] at hl
  subst hl
  rcases h with ⟨h1, h2, h3⟩ | ⟨g, cap, cur, h0, h1, h2, h3, h4, h5, h6⟩
  · exact .inl ⟨h1, List.eq_nil_of_length_eq_zero h2, h3⟩
  · exact .inr ⟨g, cap, cur, h0, h1, h2, h3, by omega, h5, by simpa using h6⟩
theorem RowV.of_owns {B : Nat} (h : w.ownsRow B e k v n cs) : ∃ o, RowV w e k v n cs o ∧ (∀ g, o = some g → B ≤ g ∧ g < w.heap.size) ∧ (0 < n → ∃ g, o = some g) := by
  obtain ⟨hl, h⟩ := h
  rcases h with ⟨rfl, h0⟩ | ⟨g, cap, cur, rfl, hB, hg, h3, h4, h5, h6⟩
  · exact ⟨none, ⟨hl, .inl ⟨rfl, h0, rfl⟩⟩, fun g hg => by (cases hg), fun h => by omega⟩
  · exact ⟨some g, ⟨hl, .inr ⟨g, cap, cur, rfl, rfl, hg, h3, by omega, h4, h6⟩⟩, fun g' hg' => by (cases hg'; exact ⟨hB, (Array.getElem?_eq_some_iff.1 hg).1⟩), fun _ => ⟨g, rfl⟩⟩

/-- THE LAW OF APPEND onto such a row, out of whatever cells -/
theorem rowV_append {P : Program} (t ty : TypeId) (i : TypeInfo) (z : Value) {by1 : Nat} (ht : P.underlying t = some (.slice e)) (hi : P.info? e = some i) (hz : i.zero = some z) (hs : i.size = k) (hby : i.bytes = by1) (hzs : z.cells.size = k) (hk : 0 < k)
    (h : RowV w e k v n cs o) {a : Addr} {m c : Nat} {news : List Value} (hl : news.length = m * k) (hnews : ∀ j u, news[j]? = some u → w.cell? (a.add j) = some u) (h1 : ∀ u ∈ news, u.oneCell' = true) (hm : 0 < m) (hmax : n + m ≤ maxLen) (hb : (n + m) * by1 ≤ 140737488355328) :
    ∃ v' w' g', (Builtin.append_ #[t, t] ty #[v, .slice (some a) m c]).run P w = .ok v' w' ∧ RowV w' e k v' (n + m) (cs ++ news) (some g') ∧ (o = some g' ∨ w.heap.size ≤ g') ∧ Keep (fun k => o = some k) w w' := by
  obtain ⟨hlc, ⟨rfl, rfl, rfl⟩ | ⟨g, cap, cur, rfl, rfl, h2, h3, h4, h5, h6⟩⟩ := h
  · obtain rfl : cs = [] := List.eq_nil_of_length_eq_zero (by simpa using hlc)
    obtain ⟨v', w', r1, r2, r3, r4⟩ := run_append_own (P := P) w w.heap.size t ty e i z k by1 ht hi hz hs hby hzs hk (.slice none 0 0) 0 [] (World.ownsRow_nil w _ e k) a m c news hl hnews h1 hmax hb (Nat.le_refl _)
    obtain ⟨o', q1, q2, q3⟩ := RowV.of_owns r2
    obtain ⟨g', rfl⟩ := q3 (by omega)
    exact ⟨v', w', g', r1, q1, .inr (q2 g' rfl).1, Keep.of_grown r3 (fun g hg => by simp [Value.ownBlock] at hg)⟩
  · by_cases hroom : n + m ≤ cap
    · subst hs
      have hfit : (n + m) * i.size ≤ cap * i.size := Nat.mul_le_mul_right _ hroom
      rw [Nat.add_mul] at hfit
      have hlt : ∀ j, j < news.length → 0 + n * i.size + j < cur.size := by intro j hj; omega
      have hr := run_append_room_cells (P := P) w t ty e i ht hi g 0 n cap a m c news hl hnews h1 hroom
        (fun j hj => by rw [h2.cell, Array.getElem?_eq_getElem (hlt j hj)]; rfl) (fun j _ => h2.free _)
      refine ⟨_, _, g, hr, ⟨?_, .inr ⟨g, cap, (cur.toList.take (n * i.size) ++ news ++ cur.toList.drop (n * i.size + news.length)).toArray, rfl, rfl, ?_, hroom, ?_, h5, ?_⟩⟩, .inl rfl, Keep.setCells (X := fun k => some g = some k) (.inl rfl) _ _ (Keep.refl _ _)⟩
      · rw [List.length_append, hlc, hl, Nat.add_mul]
      · rw [show 0 + n * i.size = n * i.size from by omega]
        exact h2.setMid (n * i.size) news (by omega)
      · simp; omega
      · rw [List.toList_toArray, Nat.add_mul, ← hl, take_setCells _ _ _ (by simp; omega), h6]
    · obtain ⟨v', w', r1, r2, r3⟩ := run_append_arg_grows (P := P) w t ty e i z k by1 ht hi hz hs hby hzs hk ⟨g, 0, none⟩ n cap cs hlc
        (fun j u hu => by
          have hj : j < n * k := by have := (List.getElem?_eq_some_iff.1 hu).1; omega
          rw [Addr.add_lit, Nat.zero_add, h2.cell, ← hu, ← h6, List.getElem?_take, if_pos hj]; simp)
        a m c news hl hnews (by omega) hmax hb
      obtain ⟨o', q1, q2, q3⟩ := RowV.of_owns r2
      obtain ⟨g', rfl⟩ := q3 (by omega)
      exact ⟨v', w', g', r1, q1, .inr (q2 g' rfl).1, Keep.of_grown r3 (fun g hg => by cases hg)⟩
/-- ONE element of one cell, laid in a block of its own first, as 'append(xs, x)' does -/
theorem rowV_append1 {P : Program} (t ty : TypeId) (i : TypeInfo) (z : Value) {by1 : Nat} (ht : P.underlying t = some (.slice e)) (hi : P.info? e = some i) (hz : i.zero = some z) (hs : i.size = 1) (hby : i.bytes = by1) (hzs : z.cells.size = 1)
    (h : RowV w e 1 v n cs o) (u : Value) (hu : u.oneCell' = true) (hmax : n + 1 ≤ maxLen) (hb : (n + 1) * by1 ≤ 140737488355328) :
    ∃ g' cap' w', (Builtin.append_ #[t, t] ty #[v, .slice (some ⟨w.heap.size, 0, none⟩) 1 1]).run P (w.alloc (.cells #[u] e)) = .ok (.slice (some ⟨g', 0, none⟩) (n + 1) cap') w' ∧ RowV w' e 1 (.slice (some ⟨g', 0, none⟩) (n + 1) cap') (n + 1) (cs ++ [u]) (some g') ∧ (o = some g' ∨ w.heap.size ≤ g') ∧ Keep (fun k => o = some k) w w' := by
  have h' := h.keep (X := fun _ => False) ((Keep.refl _ w).alloc (.cells #[u] e)) (fun _ _ h => h)
  obtain ⟨v', w', g', r1, r2, r3, r4⟩ := rowV_append (P := P) t ty i z ht hi hz hs hby hzs (by decide) h' (a := ⟨w.heap.size, 0, none⟩) (m := 1) (c := 1) (news := [u]) rfl (fun j x hx => by
    match j, hx with
    | 0, hx => cases hx; rw [Addr.add_lit, (Blk.new w #[u] e).cell]; rfl
    | j + 1, hx => simp at hx) (by simpa using hu) (by decide) hmax hb
  obtain ⟨p, cap', rfl, _, _, ⟨_, h0, _, _⟩ | ⟨g2, h2, rfl, _⟩⟩ := r2.form
  · omega
  · cases h2
    exact ⟨g', cap', w', r1, r2, r3.imp id (fun h => by simp at h; omega), ((Keep.refl _ w).alloc _).trans r4⟩
end
end Go.Proofs.Ytppcccocnmhbgaa
end

section
/- Maps keyed by int, told by a function. No program in sight. -/
namespace Go.Proofs.Ytppcccocnmhbgaa
open Go Go.RowKit Go.Maps Go.ChangeMaps

def RV (v : Value) : Option (DataW Value × List MemPlace) := some (.held v, [])
/-- block b is a map keyed by int of n entries; f tells what is at a key -/
def IMap (P : Program) (k : TypeId) (w : World) (b : Nat) (f : Int → Option Value) (n : Nat) : Prop :=
  ∃ D : DataW Value, w.ownsMap P k RV b n D ∧ Maps.size D = n ∧ ∀ x, (Lit.int .i64 x).wf = true → Maps.has D (.int .i64 x) = (f x).isSome ∧ ∀ v, f x = some v → ∀ z, D.atKey (.int .i64 x) z = .held v
section
variable {P : Program} {k : TypeId} {w w' : World} {b n : Nat} {f : Int → Option Value} {D : DataW Value}
theorem ownsMap_tight (h : w.ownsMap P k RV b n D) : w.ownsMap P k RV b (Maps.size D) D := by
  obtain ⟨es, clock, hb, F, hs, rfl⟩ := h
  exact ⟨es, clock, hb, F, by simp [Maps.size, length_sorted], rfl⟩
theorem IMap.made (w : World) (P : Program) (k : TypeId) : IMap P k (w.alloc (.map #[] 0)) w.heap.size (fun _ => none) 0 :=
  ⟨_, World.ownsMap_made w P k RV, rfl, fun x _ => ⟨rfl, fun v hv => by cases hv⟩⟩
theorem IMap.lt (h : IMap P k w b f n) : b < w.heap.size := by obtain ⟨D, h1, _⟩ := h; exact h1.lt
theorem IMap.keep {X : Nat → Prop} (h : IMap P k w b f n) (hk : Keep X w w') (hn : ¬ X b) : IMap P k w' b f n := by
  obtain ⟨D, h1, h2⟩ := h
  have hl := h1.lt
  obtain ⟨es, clock, hb, r⟩ := h1
  exact ⟨D, ⟨es, clock, (hk.block b hl hn).trans hb, r⟩, h2⟩
theorem IMap.drew (h : IMap P k w b f n) : IMap P k w.drew b f n := h
theorem RV_inv {v : Value} {d : DataW Value} {ps : List MemPlace} (h : RV v = some (d, ps)) : d = .held v := by
  simp [RV] at h; exact h.1.symm
theorem keyLit (hk : P.underlying k = some (.int .i64)) {x : Int} (hx : (Lit.int .i64 x).wf = true) : keyOf P k (.int .i64 x) = some (.int .i64 x) := keyOf_int_mk hk hx
theorem IMap.at (h : IMap P k w b f n) {x : Int} (hx : (Lit.int .i64 x).wf = true) : ∃ D : DataW Value, w.ownsMap P k RV b n D ∧ (∀ z, D.atKey (.int .i64 x) (.held z) = .held ((f x).getD z)) ∧ Maps.has D (.int .i64 x) = (f x).isSome := by
  obtain ⟨D, h1, h2, h3⟩ := h
  obtain ⟨e1, e2⟩ := h3 x hx
  refine ⟨D, h1, fun z => ?_, e1⟩
  cases hf : f x with
  | none =>
    rw [hf] at e1
    exact atKey_of_not_has e1 _
  | some v => exact e2 v hf _
/-- 'm[k]' -/
theorem IMap.look (h : IMap P k w b f n) {t e : TypeId} (hk : P.underlying k = some (.int .i64)) (ht : P.underlying t = some (.map k e)) {z : Value} (hz : (zeroValue e).run P w = .ok z w) {x : Int} (hx : (Lit.int .i64 x).wf = true) :
    (Instr.lookup t (.map (some b)) (.int .i64 x) false).run P w = .ok ((f x).getD z) w := by
  obtain ⟨D, h1, h2, _⟩ := h.at hx
  obtain ⟨v, ps, hrun, hv⟩ := h1.lookup (int_keyed hk) ht hz (R := RV) (zd := .held z) (zp := []) rfl (keyLit hk hx)
  have e1 := RV_inv hv
  rw [h2 z] at e1
  rw [hrun]
  injection e1 with e1
  rw [e1]
/-- 'v, ok := m[k]' -/
theorem IMap.lookOk (h : IMap P k w b f n) {t e : TypeId} (hk : P.underlying k = some (.int .i64)) (ht : P.underlying t = some (.map k e)) {z : Value} (hz : (zeroValue e).run P w = .ok z w) {x : Int} (hx : (Lit.int .i64 x).wf = true) :
    (Instr.lookup t (.map (some b)) (.int .i64 x) true).run P w = .ok (.tuple #[(f x).getD z, .bool (f x).isSome]) w := by
  obtain ⟨D, h1, h2, h3⟩ := h.at hx
  obtain ⟨v, ps, hrun, hv⟩ := h1.look_ok (int_keyed hk) ht hz (R := RV) (zd := .held z) (zp := []) rfl (keyLit hk hx)
  have e1 := RV_inv hv
  rw [h2 z] at e1
  rw [hrun, h3]
  injection e1 with e1
  rw [e1]
/-- 'len(m)' -/
theorem IMap.len (h : IMap P k w b f n) {t e : TypeId} (ht : P.underlying t = some (.map k e)) (ty : TypeId) : (Builtin.len_ #[t] ty #[.map (some b)]).run P w = .ok (.int .i64 (n : Int)) w := by
  obtain ⟨D, h1, h2, _⟩ := h
  rw [h1.len ht ty, h2]
theorem Keep.of_turned (h : w.mapTurned w' b) : Keep (fun k => k = b) w w' := Keep.of_grown h.grown (fun g hg => by cases hg; rfl)
theorem lit_ne {x y : Int} (h : y ≠ x) : (Lit.int .i64 y) ≠ (Lit.int .i64 x) := fun e => h (by injection e)
/-- 'm[k] = v' -/
theorem IMap.store (h : IMap P k w b f n) {t e : TypeId} (hk : P.underlying k = some (.int .i64)) (ht : P.underlying t = some (.map k e)) (hn : n < maxLen) {x : Int} (hx : (Lit.int .i64 x).wf = true) (v : Value) :
    ∃ w', (Instr.mapUpdate t (.map (some b)) (.int .i64 x) v).run P w = .ok () w' ∧ IMap P k w' b (fun y => if y = x then some v else f y) (if (f x).isSome then n else n + 1) ∧ Keep (fun k => k = b) w w' := by
  obtain ⟨D, h1, h2, h3⟩ := h
  obtain ⟨w1, hrun, r1, r2⟩ := h1.store (int_keyed hk) ht hn (R := RV) (d := .held v) (ps := []) (keyLit hk hx) rfl
  have hsz := size_put (k := .int .i64 x) (h1.tidy (int_keyed hk)) (.held v : DataW Value)
  rw [(h3 x hx).1, h2] at hsz
  refine ⟨w1, hrun, ⟨D.put (.int .i64 x) (.held v), ?_, hsz, fun y hy => ?_⟩, Keep.of_turned r2⟩
  · have := ownsMap_tight r1
    rw [hsz] at this
    exact this
  · by_cases hyx : y = x
    · subst hyx
      simp only [if_true]
      refine ⟨has_put_same h1.isMap (show WideAt.IsKeyLit (.int .i64 y) from trivial) _, fun v' hv' z => ?_⟩
      cases hv'
      exact atKey_put_same h1.isMap (show WideAt.IsKeyLit (.int .i64 y) from trivial) _ _
    · simp only [if_neg hyx]
      refine ⟨(has_put_other (lit_ne hyx) _).trans (h3 y hy).1, fun v' hv' z => (atKey_put_other (lit_ne hyx) _ _).trans ((h3 y hy).2 v' hv' z)⟩
/-- 'delete(m, k)' -/
theorem IMap.drop (h : IMap P k w b f n) {t e : TypeId} (hk : P.underlying k = some (.int .i64)) (ht : P.underlying t = some (.map k e)) {x : Int} (hx : (Lit.int .i64 x).wf = true) (ty : TypeId) :
    ∃ w', (Builtin.delete_ #[t, k] ty #[.map (some b), .int .i64 x]).run P w = .ok (.tuple #[]) w' ∧ IMap P k w' b (fun y => if y = x then none else f y) (if (f x).isSome then n - 1 else n) ∧ Keep (fun k => k = b) w w' := by
  obtain ⟨D, h1, h2, h3⟩ := h
  obtain ⟨w1, hrun, r1, r2⟩ := h1.drop (int_keyed hk) ht (keyLit hk hx) ty
  have hsz := size_del (k := .int .i64 x) (h1.tidy (int_keyed hk))
  rw [(h3 x hx).1, h2] at hsz
  have hsz2 : Maps.size (D.del (.int .i64 x)) = if (f x).isSome then n - 1 else n := by
    cases hf : (f x).isSome <;> rw [hf] at hsz <;> simp at hsz ⊢ <;> omega
  refine ⟨w1, hrun, ⟨D.del (.int .i64 x), ?_, hsz2, fun y hy => ?_⟩, Keep.of_turned r2⟩
  · have := ownsMap_tight r1
    rw [hsz2] at this
    exact this
  · by_cases hyx : y = x
    · subst hyx
      simp only [if_true]
      exact ⟨has_del_same, fun v' hv' => by cases hv'⟩
    · simp only [if_neg hyx]
      refine ⟨(has_del_other (lit_ne hyx)).trans (h3 y hy).1, fun v' hv' z => (atKey_del_other (lit_ne hyx) _).trans ((h3 y hy).2 v' hv' z)⟩
end
/-- 'build' at the list of a region's operations, once its run is known -/
theorem wpl_build {P : Program} {w : World} {ops : Array Oper} {rest : List Oper} {o : Oper} {a : Act} {Q : Exit → Act → World → Prop} (hgd : o.guard = none) (t : TypeId) (parts : Array (Nat × Operand)) (ho : o.op = .build t parts) {ps : Array (Nat × Value)} {v : Value}
    (hp : (parts.map fun (i, x) => (i, a.eval x)) = ps) (hrun : (Instr.build t ps).run P w = .ok v w) (h : wpList P ops Q rest (a.put o.dst v) w) : wpList P ops Q (o :: rest) a w := by
  refine wpList_plain hgd fun K hK' => ?_
  unfold Oper.wp
  subst hp
  simp only [execOp, ho, hrun, Sem.run_bind, Sem.run_pure, Result.andThen_ok]
  exact hK' _ _ h
theorem wpl_makeMap {P : Program} {w : World} {ops : Array Oper} {rest : List Oper} {o : Oper} {a : Act} {Q : Exit → Act → World → Prop} (hgd : o.guard = none) (t : TypeId) (ho : o.op = .makeMap t none)
    (h : wpList P ops Q rest (a.put o.dst (.map (some w.heap.size))) (w.alloc (.map #[] 0))) : wpList P ops Q (o :: rest) a w := by
  refine wpList_plain hgd fun K hK' => ?_
  have hr := @run_makeMap P t w
  unfold Oper.wp
  simp [execOp, ho, hr, Result.andThen]
  exact hK' _ _ h
theorem setCells_alloc (w : World) (t : TypeId) : ∀ (vs pre post : List Value), post.length = vs.length → (w.alloc (.cells (pre ++ post).toArray t)).setCells w.heap.size pre.length vs = w.alloc (.cells (pre ++ vs).toArray t)
  | [], pre, post, h => by
    obtain rfl : post = [] := List.length_eq_zero_iff.1 h
    rfl
  | v :: r, pre, post, h => by
    match post, h with
    | p :: post, h =>
      have e : (pre ++ p :: post).toArray.setIfInBounds pre.length v = ((pre ++ [v]) ++ post).toArray := by simp
      have ih := setCells_alloc w t r (pre ++ [v]) post (by simpa using h)
      rw [World.setCells, World.setCell_alloc_new, e]
      simpa using ih
/-- a whole value stored into a new block -/
theorem store_new {P : Program} (w : World) (t : TypeId) (zs vs : Array Value) (hs : zs.size = vs.size) (h1 : vs.all (·.oneCell') = true) :
    (storeCells ⟨w.heap.size, 0, none⟩ vs.toList).run P (w.alloc (.cells zs t)) = .ok () (w.alloc (.cells vs t)) := by
  have hb := Blk.new w zs t
  have h := run_storeCells_cells (P := P) w.heap.size 0 vs.toList 0 (w.alloc (.cells zs t)) (fun j hj => by rw [hb.cell]; simp at hj ⊢; omega) (fun j hj => hb.free _)
    (fun v hv => (Array.all_eq_true_iff_forall_mem.1 h1) v (by simpa using hv))
  rw [h]
  have e := setCells_alloc w t vs.toList [] zs.toList (by simp [hs])
  simpa using e
end Go.Proofs.Ytppcccocnmhbgaa
end

section
/- Opening a law's arguments: arrays of integers by value. -/
namespace Go.Proofs.Ytppcccocnmhbgaa
open Go.ChangeShapes Go.WideShapes Go.ChangeAt Go.RowKit

theorem Try.own : ownKnob Try.prog.godebug = none := by kernel_rfl
theorem Try.laidOut : laidOutB Try.prog = true := by kernel_rfl

section
variable {H : Type} {enc : TypeId × Value → H} {P : Program} {w : World} {base : Nat} {spare : Nat → Bool} {held : Bool}
/-- AN ARRAY OF INTEGERS BY VALUE -/
theorem open_arr {r : Reach} {b0 : Nat} {t e : TypeId} {n : Nat} {k : IntKind} {v : Value} {d : DataW H} {p : List MemPlace} (ht : P.underlying t = some (.array n e)) (he : P.underlying e = some (.int k))
    (hce : P.cellsOf e = 1) (hct : P.cellsOf t = n) (hv : Value.okWide P w r b0 t v) (h : DataW.Trod enc P w base spare held t v d p) :
    ∃ f : Nat → Int, v = .agg ((List.range n).map fun i => .int k (f i)).toArray ∧ ∀ i, i < n → (Lit.int k (f i)).wf = true := by
  obtain ⟨cs, rfl, hs, _⟩ : ∃ cs, v = .agg cs ∧ cs.size = P.cellsOf t ∧ Row.okWide P w r b0 t cs := by
    unfold Value.okWide at hv; rw [ht] at hv; exact hv
  obtain ⟨fuel, hf⟩ := h
  obtain ⟨xs, m, _, _, hl, hx, hi⟩ := DataW.trod_array ht hf
  rw [hce] at hi
  rw [hct] at hs
  have key : ∀ i, i < n → ∃ z, cs[i]? = some (.int k z) ∧ (Lit.int k z).wf = true := by
    intro i hlt
    have h1 := hi i hlt
    rw [Nat.mul_one] at h1
    obtain ⟨x, hxi⟩ : ∃ x, xs[i]? = some x := ⟨xs[i]'(by omega), List.getElem?_eq_getElem (by omega)⟩
    rw [hxi] at h1
    have hc : cs[i]? = some (cs[i]'(by omega)) := Array.getElem?_eq_getElem (by omega)
    have h2 : ((Value.agg cs).cells.toList.drop i).take 1 = [cs[i]'(by omega)] := by
      simp [Value.cells, List.take_one, hc]
    rw [h2] at h1
    obtain ⟨z, e0, _, wz⟩ := DataW.trod_int he h1
    refine ⟨z, ?_, wz⟩
    rw [hc]
    simp at e0
    rw [e0]
  refine ⟨fun i => match cs[i]? with | some (.int _ z) => z | _ => 0, ?_, ?_⟩
  · congr 1
    apply Array.ext
    · simp [hs]
    · intro i h1 h2
      obtain ⟨z, hz, _⟩ := key i (by omega)
      simp [hz]
      rw [Array.getElem?_eq_getElem h1] at hz
      exact Option.some.inj hz
  · intro i hlt
    obtain ⟨z, hz, wz⟩ := key i hlt
    simpa [hz] using wz
end

end Go.Proofs.Ytppcccocnmhbgaa
end

section
/- '==' on two arrays of integers. -/
namespace Go.Proofs.Ytppcccocnmhbgaa
open Go

theorem run_equalIn_ints {P : Program} (d : Nat) (t e : TypeId) (len : Nat) (k k' : IntKind) (xs ys : Array Value) (f g : Nat → Int) (w : World)
    (ht : P.underlying t = some (.array len e)) (he : P.underlying e = some (.int k')) (ha : ∀ w, (isAgg e).run P w = .ok false w) (hs : ∀ w, (Go.sizeOf e).run P w = .ok 1 w)
    (hx : ∀ i, i < len → xs[i]? = some (.int k (f i))) (hy : ∀ i, i < len → ys[i]? = some (.int k (g i))) :
    (Op.equalIn (d + 2) t (.agg xs) (.agg ys)).run P w = .ok ((List.range len).all fun i => f i == g i) w := by
  have px : ∀ i, i < len → ∀ w, (Go.part e xs i).run P w = .ok (.int k (f i)) w := by
    intro i hi w; simp [Go.part, Sem.run_bind, ha, hx i hi]
  have py : ∀ i, i < len → ∀ w, (Go.part e ys i).run P w = .ok (.int k (g i)) w := by
    intro i hi w; simp [Go.part, Sem.run_bind, ha, hy i hi]
  unfold Op.equalIn
  simp only [Sem.run_bind, run_underlying ht, Result.andThen_ok, hs, Nat.mul_one]
  rw [Std.Legacy.Range.forIn_eq_forIn_range']
  simp only [Std.Legacy.Range.size, Nat.sub_zero, Nat.add_sub_cancel, Nat.div_one]
  have key : ∀ (n s : Nat) (w : World), s + n ≤ len → Sem.run P (forIn (m := Sem) (List.range' s n) ((none, ()) : Option Bool × Unit) (fun i (_ : Option Bool × Unit) => do
            let __do_lift ← Go.part e xs i
            let __do_lift_1 ← Go.part e ys i
            let __do_lift ← Op.equalIn (d + 1) e __do_lift __do_lift_1
            if (!__do_lift) = true then pure (ForInStep.done (some false, ())) else pure (ForInStep.yield (none, ())))) w =
      .ok (if (List.range' s n).all fun i => f i == g i then (none, ()) else (some false, ())) w := by
    intro n
    induction n with
    | zero => intro s w _; simp
    | succ n ih =>
      intro s w h
      rw [List.range'_succ, List.forIn_cons, List.all_cons]
      simp only [Sem.run_bind, px s (by omega), py s (by omega), Result.andThen_ok, run_equalIn_int w d e k k' _ _ he]
      by_cases hfg : f s = g s
      · simp only [hfg, beq_self_eq_true, Bool.not_true, Bool.false_eq_true, if_false, Sem.run_pure, Result.andThen_ok, Bool.true_and]
        exact ih (s + 1) w (by omega)
      · simp [hfg]
  rw [key len 0 w (by omega), Result.andThen_ok, List.range_eq_range']
  cases (List.range' 0 len).all (fun i => f i == g i) <;> rfl

/-- '==' on two arrays of integers -/
theorem run_eql_ints {P : Program} (t e : TypeId) (len : Nat) (k k' : IntKind) (xs ys : Array Value) (f g : Nat → Int) (w : World)
    (ht : P.underlying t = some (.array len e)) (he : P.underlying e = some (.int k')) (ha : ∀ w, (isAgg e).run P w = .ok false w) (hs : ∀ w, (Go.sizeOf e).run P w = .ok 1 w)
    (hx : ∀ i, i < len → xs[i]? = some (.int k (f i))) (hy : ∀ i, i < len → ys[i]? = some (.int k (g i))) :
    (binOp .eql t (.agg xs) (.agg ys)).run P w = .ok (.bool ((List.range len).all fun i => f i == g i)) w := by
  rw [run_eql_struct, run_equalIn_ints 9998 t e len k k' xs ys f g w ht he ha hs hx hy]; rfl
theorem run_neq_ints {P : Program} (t e : TypeId) (len : Nat) (k k' : IntKind) (xs ys : Array Value) (f g : Nat → Int) (w : World)
    (ht : P.underlying t = some (.array len e)) (he : P.underlying e = some (.int k')) (ha : ∀ w, (isAgg e).run P w = .ok false w) (hs : ∀ w, (Go.sizeOf e).run P w = .ok 1 w)
    (hx : ∀ i, i < len → xs[i]? = some (.int k (f i))) (hy : ∀ i, i < len → ys[i]? = some (.int k (g i))) :
    (binOp .neq t (.agg xs) (.agg ys)).run P w = .ok (.bool (!((List.range len).all fun i => f i == g i))) w := by
  rw [run_neq_struct, run_equalIn_ints 9998 t e len k k' xs ys f g w ht he ha hs hx hy]; rfl
end Go.Proofs.Ytppcccocnmhbgaa
end
