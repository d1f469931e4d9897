import Derived.Test.YtppcccocnmhbgaaFl5
import Derived.Deep.MidRow
import Derived.Laws.Rows
import Derived.Test.YtppcccocnmhbgaaFl6
import Derived.Lib.AppendZerosOnto
import Derived.Test.YtppcccocnmhbgaaFl4
import Derived.WalkMore
import Derived.BigFrame
import Derived.Test.YtppcccocnmhbgaaRows
import Derived.BigQuiet
import Derived.ScopeJumps
section
/- Hashes: arrays of 32 bytes, as numbers; whole arrays that the walk does not open. -/
namespace Go.Proofs.Ytppcccocnmhbgaa
open Go.RowKit

/-- byte k of n -/
def byt (n k : Nat) : Int := ((n / 2 ^ (8 * k) % 2 ^ 8 : Nat) : Int)
/-- the cells of api.Hash that is n -/
def hls (n : Nat) : List Value := (List.range 32).map fun k => Value.int .u8 (byt n k)
def hcs (n : Nat) : Array Value := (hls n).toArray
abbrev hv (n : Nat) : Value := .agg (hcs n)
theorem hcs_size (n : Nat) : (hcs n).size = 32 := by simp [hcs, hls]
theorem hcs_get (n k : Nat) (h : k < 32) : (hcs n)[k]? = some (.int .u8 (byt n k)) := by simp [hcs, hls, h]
theorem hls_length (n : Nat) : (hls n).length = 32 := by simp [hls]
theorem byt_range (n k : Nat) : 0 ≤ byt n k ∧ byt n k < 256 := by
  unfold byt
  have : n / 2 ^ (8 * k) % 2 ^ 8 < 2 ^ 8 := Nat.mod_lt _ (by decide)
  omega
theorem hcs_one (n : Nat) : (hcs n).all (·.oneCell') = true := by
  unfold hcs hls; rw [Array.all_eq_true]; intro i h; simp [Value.oneCell']
def bn (n k : Nat) : Nat := n / 2 ^ (8 * k) % 2 ^ 8
theorem byt_eq (n k : Nat) : byt n k = (bn n k : Int) := rfl
theorem bn_lt (n k : Nat) : bn n k < 2 ^ 8 := Nat.mod_lt _ (by decide)
theorem bn_bit (n k i : Nat) : (bn n k).testBit i = (decide (i < 8) && n.testBit (8 * k + i)) := by
  unfold bn; rw [Nat.testBit_mod_two_pow, Nat.testBit_div_two_pow, Nat.add_comm]
theorem bn_ext {a b : Nat} (ha : a < 2 ^ 256) (hb : b < 2 ^ 256) (h : ∀ k, k < 32 → bn a k = bn b k) : a = b := by
  apply Nat.eq_of_testBit_eq; intro i
  by_cases hi : i < 256
  · have := congrArg (fun x => x.testBit (i % 8)) (h (i / 8) (by omega))
    simp only [bn_bit] at this
    rw [decide_eq_true (show i % 8 < 8 from Nat.mod_lt _ (by decide))] at this
    simpa [show 8 * (i / 8) + i % 8 = i from by omega] using this
  · rw [Nat.testBit_lt_two_pow (Nat.lt_of_lt_of_le ha (Nat.pow_le_pow_right (by decide) (by omega))), Nat.testBit_lt_two_pow (Nat.lt_of_lt_of_le hb (Nat.pow_le_pow_right (by decide) (by omega)))]
theorem byt_mod (x k j : Nat) : byt (x % 2 ^ (8 * k)) j = if j < k then byt x j else 0 := by
  rw [byt_eq, byt_eq]
  have : bn (x % 2 ^ (8 * k)) j = if j < k then bn x j else 0 := by
    apply Nat.eq_of_testBit_eq; intro i
    rw [bn_bit, Nat.testBit_mod_two_pow]
    by_cases h : j < k
    · rw [if_pos h, bn_bit]
      by_cases hi : i < 8
      · rw [decide_eq_true (show 8 * j + i < 8 * k from by omega), Bool.true_and]
      · simp [hi]
    · rw [if_neg h, Nat.zero_testBit]
      by_cases hi : i < 8
      · rw [decide_eq_false (show ¬ 8 * j + i < 8 * k from by omega)]; simp
      · simp [hi]
  rw [this]; split <;> rfl
theorem hcs_ext {a b : Nat} (h : ∀ k, k < 32 → byt a k = byt b k) : hcs a = hcs b := by
  unfold hcs hls; congr 1; apply List.map_congr_left; intro k hk; rw [h k (List.mem_range.1 hk)]
theorem hcs_step (x k : Nat) : (hcs (x % 2 ^ (8 * k))).setIfInBounds k (.int .u8 (byt x k)) = hcs (x % 2 ^ (8 * (k + 1))) := by
  apply Array.ext
  · simp [hcs_size]
  · intro i h1 h2
    rw [hcs_size] at h2
    rw [Array.getElem_setIfInBounds]
    have e : ∀ n (h' : i < (hcs n).size), (hcs n)[i] = .int .u8 (byt n i) := by
      intro n h'; have := hcs_get n i h2; rw [Array.getElem?_eq_getElem h'] at this; exact Option.some.inj this
    by_cases hik : k = i
    · subst hik; rw [if_pos rfl, e, byt_mod, if_pos (by omega)]
    · rw [if_neg hik, e, e, byt_mod, byt_mod]
      by_cases h3 : i < k
      · rw [if_pos h3, if_pos (by omega)]
      · rw [if_neg h3, if_neg (by omega)]
    simpa [hcs_size] using h2
theorem hcs_zero : hcs 0 = (Array.replicate 32 (Value.int .u8 0)) := by
  apply Array.ext <;> simp [hcs, hls, byt]
/-- a part of b bits put into a number below it -/
theorem or_part (m i c b : Nat) (hm : m < 2 ^ i) (hc : c < 2 ^ b) (hb : i % 64 + b ≤ 64) :
    bits .or .u64 (wd m (i / 64)) (IntKind.u64.wrap ((c : Int) * 2 ^ (i % 64))) = wd (m + 2 ^ i * c) (i / 64) := by
  have hlt : c * 2 ^ (i % 64) < 2 ^ 64 := by
    have h1 : c * 2 ^ (i % 64) < 2 ^ b * 2 ^ (i % 64) := Nat.mul_lt_mul_of_pos_right hc (Nat.two_pow_pos _)
    rw [← Nat.pow_add] at h1
    exact Nat.lt_of_lt_of_le h1 (Nat.pow_le_pow_right (by decide) (by omega))
  rw [show (c : Int) * 2 ^ (i % 64) = ((c * 2 ^ (i % 64) : Nat) : Int) from by simp, u64_small _ hlt, wd_eq, or_u64 _ _ (wn_lt _ _) hlt, wd_eq]
  congr 1
  rw [Nat.add_comm m, Nat.two_pow_add_eq_or_of_lt hm, wn_or, Nat.or_comm]
  congr 1
  apply Nat.eq_of_testBit_eq; intro j
  rw [wn_bit, Nat.mul_comm c, Nat.testBit_two_pow_mul, Nat.testBit_two_pow_mul]
  by_cases hj : j < 64
  · rw [decide_eq_true hj, Bool.true_and]
    by_cases h2 : i % 64 ≤ j
    · rw [decide_eq_true h2, decide_eq_true (show i ≤ 64 * (i / 64) + j by omega)]
      congr 1; congr 1; omega
    · rw [decide_eq_false h2, decide_eq_false (show ¬ i ≤ 64 * (i / 64) + j by omega)]; simp
  · rw [decide_eq_false hj, Bool.false_and]
    have : c.testBit (j - i % 64) = false := Nat.testBit_lt_two_pow (Nat.lt_of_lt_of_le hc (Nat.pow_le_pow_right (by decide) (by omega)))
    rw [this]; simp
theorem wd_part_far (m i c b k : Nat) (hm : m < 2 ^ i) (hc : c < 2 ^ b) (hb : i % 64 + b ≤ 64) (hk : k ≠ i / 64) : wd (m + 2 ^ i * c) k = wd m k := by
  rw [wd_eq, wd_eq]
  congr 1
  rw [Nat.add_comm m, Nat.two_pow_add_eq_or_of_lt hm, wn_or]
  have : wn (2 ^ i * c) k = 0 := by
    apply Nat.eq_of_testBit_eq; intro j
    rw [wn_bit, Nat.testBit_two_pow_mul, Nat.zero_testBit]
    by_cases hj : j < 64
    · by_cases h2 : i ≤ 64 * k + j
      · have : c.testBit (64 * k + j - i) = false := Nat.testBit_lt_two_pow (Nat.lt_of_lt_of_le hc (Nat.pow_le_pow_right (by decide) (by omega)))
        rw [this]; simp
      · rw [decide_eq_false h2]; simp
    · rw [decide_eq_false hj]; simp
  rw [this, Nat.zero_or]
theorem wcs_part (m i c b : Nat) (hi : i < 256) (hm : m < 2 ^ i) (hc : c < 2 ^ b) (hb : i % 64 + b ≤ 64) : (wcs m).setIfInBounds (i / 64) (.int .u64 (wd (m + 2 ^ i * c) (i / 64))) = wcs (m + 2 ^ i * c) := by
  have far := fun k => wd_part_far m i c b k hm hc hb
  rcases (by omega : i / 64 = 0 ∨ i / 64 = 1 ∨ i / 64 = 2 ∨ i / 64 = 3) with h | h | h | h <;> rw [h] at far ⊢
  · rw [wcs, wcs, far 1 (by decide), far 2 (by decide), far 3 (by decide)]; rfl
  · rw [wcs, wcs, far 0 (by decide), far 2 (by decide), far 3 (by decide)]; rfl
  · rw [wcs, wcs, far 0 (by decide), far 1 (by decide), far 3 (by decide)]; rfl
  · rw [wcs, wcs, far 0 (by decide), far 1 (by decide), far 2 (by decide)]; rfl
/-- byte k of n out of its word -/
theorem byt_wd (n k : Nat) : (wd n (k / 8) / 2 ^ (8 * (k % 8))) % 256 = byt n k := by
  have e : wd n (k / 8) / 2 ^ (8 * (k % 8)) = ((wn n (k / 8) / 2 ^ (8 * (k % 8)) : Nat) : Int) := by
    rw [wd_eq, Int.natCast_ediv, Int.natCast_pow]; rfl
  rw [e, byt_eq]
  have : wn n (k / 8) / 2 ^ (8 * (k % 8)) % 2 ^ 8 = bn n k := by
    apply Nat.eq_of_testBit_eq; intro i
    rw [Nat.testBit_mod_two_pow, Nat.testBit_div_two_pow, wn_bit, bn_bit]
    by_cases hi : i < 8
    · rw [decide_eq_true hi, decide_eq_true (show i + 8 * (k % 8) < 64 by omega), Bool.true_and, Bool.true_and, Bool.true_and]
      congr 1; omega
    · rw [decide_eq_false hi]; simp
  omega
theorem i64_small8 (n : Int) (h0 : 0 ≤ n) (h1 : n < 2 ^ 8) : IntKind.i64.wrap n = n := by rw [IntKind.wrap_i64]; omega
theorem and7 (k : Nat) (h : k < 32) : bits .and .i64 (k : Int) 7 = (k : Int) % 8 :=
  bits_mask .i64 8 (by decide) i64_small8 3 (by decide) (k : Int) (by omega) (by omega)
theorem byt_wd' (n k : Nat) : (wd n (k / 8) / 2 ^ (k % 8 * 8)) % 256 = byt n k := by rw [Nat.mul_comm]; exact byt_wd n k

theorem mod_byte (h k : Nat) : h % 2 ^ (8 * (k + 1)) = h % 2 ^ (8 * k) + 2 ^ (8 * k) * bn h k := by
  unfold bn
  rw [show 2 ^ (8 * (k + 1)) = 2 ^ (8 * k) * 2 ^ 8 from Nat.pow_add 2 (8 * k) 8, Nat.mod_mul]
theorem of_or (h k : Nat) : bits .or .u64 (wd (h % 2 ^ (8 * k)) (k / 8)) (IntKind.u64.wrap (byt h k * 2 ^ (8 * (k % 8)))) = wd (h % 2 ^ (8 * (k + 1))) (k / 8) := by
  have := or_part (h % 2 ^ (8 * k)) (8 * k) (bn h k) 8 (Nat.mod_lt _ (Nat.two_pow_pos _)) (bn_lt h k) (by omega)
  rw [← mod_byte, show 8 * k / 64 = k / 8 from by omega, show 8 * k % 64 = 8 * (k % 8) from by omega] at this
  exact this
theorem of_or' (h k : Nat) : bits .or .u64 (wd (h % 2 ^ (8 * k)) (k / 8)) (IntKind.u64.wrap (byt h k * 2 ^ (k % 8 * 8))) = wd (h % 2 ^ (8 * (k + 1))) (k / 8) := by
  rw [Nat.mul_comm (k % 8) 8]; exact of_or h k
theorem of_cells (h k : Nat) (hk : k < 32) : (wcs (h % 2 ^ (8 * k))).setIfInBounds (k / 8) (.int .u64 (wd (h % 2 ^ (8 * (k + 1))) (k / 8))) = wcs (h % 2 ^ (8 * (k + 1))) := by
  have := wcs_part (h % 2 ^ (8 * k)) (8 * k) (bn h k) 8 (by omega) (Nat.mod_lt _ (Nat.two_pow_pos _)) (bn_lt h k) (by omega)
  rw [← mod_byte, show 8 * k / 64 = k / 8 from by omega] at this
  exact this

/-- an element of an array by value -/
theorem run_index_arr {P : Program} (t e : TypeId) (n i : Nat) (cs : Array Value) (v : Value) (w : World) (h : P.underlying t = some (.array n e)) (ha : ∀ w, (isAgg e).run P w = .ok false w) (hs : ∀ w, (Go.sizeOf e).run P w = .ok 1 w)
    (hi : i < n) (hv : cs[i]? = some v) : (Instr.index t (.agg cs) (.int .i64 (i : Int))).run P w = .ok v w := by
  have h1 : 0 ≤ (i : Int) ∧ (i : Int) < n := by omega
  unfold Instr.index
  simp only [asIntOf, Sem.run_bind, Sem.run_pure, Result.andThen_ok, run_underlying h, if_pos h1, Go.part, ha, hs, Int.toNat_natCast, Nat.mul_one, hv, Bool.false_eq_true, if_false]
/-! ### whole arrays -/
theorem Blk.setCells {g : Nat} {t : TypeId} : ∀ (vs : List Value) (o : Nat) (w : World) (pre post : List Value), pre.length = o → post.length = vs.length → Blk w g (pre ++ post).toArray t → Blk (w.setCells g o vs) g (pre ++ vs).toArray t
  | [], _, _, _, post, _, h2, h => by
    have : post = [] := List.length_eq_zero_iff.1 h2
    subst this; exact h
  | v :: r, o, w, pre, post, h1, h2, h => by
    match post, h2, h with
    | p :: post, h2, h =>
      have e : (pre ++ p :: post).toArray.setIfInBounds o v = ((pre ++ [v]) ++ post).toArray := by
        subst h1; simp
      have h3 := h.set o v
      rw [e] at h3
      have := Blk.setCells r (o + 1) (w.setCell ⟨g, o, none⟩ v) (pre ++ [v]) post (by simp [h1]) (by simpa using h2) h3
      simpa [World.setCells] using this
theorem Blk.setAll {w : World} {g : Nat} {c : Array Value} {t : TypeId} (h : Blk w g c t) (vs : Array Value) (hs : c.size = vs.size) : Blk (w.setCells g 0 vs.toList) g vs t := by
  have := Blk.setCells (g := g) (t := t) vs.toList 0 w [] c.toList rfl (by simp [hs]) (by simpa using h)
  simpa using this
theorem heap_setCells {g k : Nat} (h : k ≠ g) : ∀ (vs : List Value) (o : Nat) (w : World), (w.setCells g o vs).heap[k]? = w.heap[k]?
  | [], _, _ => rfl
  | v :: r, o, w => (heap_setCells h r (o + 1) _).trans (Below.heap_setCell w ⟨g, o, none⟩ v k h)
theorem size_setCells {g : Nat} : ∀ (vs : List Value) (o : Nat) (w : World), (w.setCells g o vs).heap.size = w.heap.size
  | [], _, _ => rfl
  | _ :: r, o, _ => (size_setCells r (o + 1) _).trans (by simp [World.setCell])
theorem below_setCells {B g : Nat} {a : World} (hg : B ≤ g) : ∀ (vs : List Value) (o : Nat) (w : World), Below B a w → Below B a (w.setCells g o vs)
  | [], _, _, h => h
  | v :: r, o, _, h => below_setCells hg r (o + 1) _ (h.setCell (p := ⟨g, o, none⟩) hg v)
theorem Blk.there {w : World} {g : Nat} {c : Array Value} {t : TypeId} (h : Blk w g c t) : w.there g 0 c.size := fun j hj => by
  rw [h.cell, h.free]; simp; omega
/-- A WHOLE ARRAY IS READ out of a variable. -/
theorem wpl_load {P : Program} {ops : Array Oper} {rest : List Oper} {o : Oper} {a : Act} {w : World} {Q : Exit → Act → World → Prop} (hgd : o.guard = none) (ty : TypeId) (x : Operand) (ho : o.op = .load ty x)
    {g n : Nat} {e t : TypeId} {cs : Array Value} (hx : a.eval x = .pointer (some ⟨g, 0, none⟩)) (hg : Blk w g cs t)
    (hu : P.underlying ty = some (.array n e)) (hi : (P.info? ty).map (·.size) = some cs.size)
    (h : wpList P ops Q rest (a.put o.dst (.agg cs)) w) : wpList P ops Q (o :: rest) a w :=
  wpList_load_row hgd ty x ho g hx t cs (0, 0) (.array n e) hg hu rfl hi h
/-- A WHOLE ARRAY IS STORED into a variable. -/
theorem wpl_store {P : Program} {ops : Array Oper} {rest : List Oper} {o : Oper} {a : Act} {w : World} {Q : Exit → Act → World → Prop} (hgd : o.guard = none) (ty : TypeId) (x y : Operand) (ho : o.op = .store ty x y)
    {g : Nat} {t : TypeId} {cs vs : Array Value} (hx : a.eval x = .pointer (some ⟨g, 0, none⟩)) (hy : a.eval y = .agg vs) (hg : Blk w g cs t) (hs : cs.size = vs.size)
    (hi : (P.info? ty).map (·.size) = some vs.size) (h1 : vs.all (·.oneCell') = true)
    (h : wpList P ops Q rest (a.put o.dst undef) (w.setCells g 0 vs.toList)) : wpList P ops Q (o :: rest) a w :=
  wpList_store_mid hgd ty x y ho g 0 vs hx hy (hs ▸ hg.there) hi h1 h
theorem St.set {B : Nat} {W w : World} {b : Nat} {c : Array Value} {t : TypeId} {l : List (Nat × Array Value × TypeId)} (h : St B W w ((b, c, t) :: l)) (hB : B ≤ b) (hne : ∀ x ∈ l, x.1 ≠ b) (o : Nat) (v : Value) :
    St B W (w.setCell ⟨b, o, none⟩ v) ((b, c.setIfInBounds o v, t) :: l) :=
  ⟨h.below.setCell hB v, fun x hx => by
    rcases List.mem_cons.1 hx with rfl | hx
    · exact (h.at (b := b) (c := c) (t := t) (by simp)).set o v
    · exact (h.live x (List.mem_cons_of_mem _ hx)).setFar (a := ⟨b, o, none⟩) (hne x hx) v⟩
theorem St.setAll {B : Nat} {W w : World} {b : Nat} {c : Array Value} {t : TypeId} {l : List (Nat × Array Value × TypeId)} (h : St B W w ((b, c, t) :: l)) (hB : B ≤ b) (hne : ∀ x ∈ l, x.1 ≠ b) (vs : Array Value) (hs : c.size = vs.size) :
    St B W (w.setCells b 0 vs.toList) ((b, vs, t) :: l) :=
  ⟨below_setCells hB _ _ _ h.below, fun x hx => by
    rcases List.mem_cons.1 hx with rfl | hx
    · exact (h.at (b := b) (c := c) (t := t) (by simp)).setAll vs hs
    · exact (heap_setCells (hne x hx) _ _ _).trans (h.live x (List.mem_cons_of_mem _ hx))⟩
theorem St.perm {B : Nat} {W w : World} {l l' : List (Nat × Array Value × TypeId)} (h : St B W w l) (hs : l' ⊆ l) : St B W w l' := ⟨h.below, fun x hx => h.live x (hs hx)⟩
theorem St.new3' (w : World) (c0 c1 c2 : Array Value) (t0 t1 t2 : TypeId) : St w.heap.size w (((w.alloc (.cells c0 t0)).alloc (.cells c1 t1)).alloc (.cells c2 t2)) [(w.heap.size + 1 + 1, c2, t2), (w.heap.size + 1, c1, t1), (w.heap.size, c0, t0)] := by
  have h := (St.new2 w c0 c1 t0 t1).new c2 t2
  rw [show ((w.alloc (.cells c0 t0)).alloc (.cells c1 t1)).heap.size = w.heap.size + 1 + 1 from by simp] at h
  exact h
/-- A RESULT THAT IS A WHOLE ARRAY -/
theorem results_blk {P : Program} {fn : Func} {p : Tmp} {ty : TypeId} (h : fn.results = #[.cell p ty]) (tmps : Array Value) (w : World) {g n : Nat} {e t : TypeId} {cs : Array Value}
    (hp : tmps.getD p undef = .pointer (some ⟨g, 0, none⟩)) (hg : Blk w g cs t) (hu : P.underlying ty = some (.array n e)) (hi : (P.info? ty).map (·.size) = some cs.size) :
    (results fn tmps).run P w = .ok (.agg cs) w := results_cell_row h tmps w g t cs (0, 0) (.array n e) hp hg hu rfl hi
end Go.Proofs.Ytppcccocnmhbgaa
end

section
/- '==' and '!=' on hashes; a law's argument of type api.Hash; no number of four words in sight. -/
namespace Go.Proofs.Ytppcccocnmhbgaa
open Go Go.ChangeShapes Go.WideShapes Go.ChangeAt Go.RowKit

theorem isAgg_u8 (w : World) : (isAgg 5).run Try.prog w = .ok false w := by kernel_rfl
theorem sizeOf_u8 (w : World) : (Go.sizeOf 5).run Try.prog w = .ok 1 w := by kernel_rfl
theorem byt_all (a b : Nat) (ha : a < W256) (hb : b < W256) : ((List.range 32).all fun i => byt a i == byt b i) = (a == b) := by
  rw [W256_eq] at *
  rw [Bool.eq_iff_iff, List.all_eq_true, beq_iff_eq]
  constructor
  · intro h
    refine bn_ext ha hb fun k hk => ?_
    have := h k (List.mem_range.2 hk)
    rw [beq_iff_eq, byt_eq, byt_eq] at this
    omega
  · rintro rfl; simp
theorem heql (a b : Nat) (ha : a < W256) (hb : b < W256) (w : World) : (binOp .eql 23 (hv a) (hv b)).run Try.prog w = .ok (.bool (a == b)) w := by
  rw [← byt_all a b ha hb]
  exact run_eql_ints 23 5 32 .u8 .u8 (hcs a) (hcs b) (byt a) (byt b) w Try.underlying23 Try.underlying5 isAgg_u8 sizeOf_u8 (fun i hi => hcs_get a i hi) (fun i hi => hcs_get b i hi)
theorem hneq (a b : Nat) (ha : a < W256) (hb : b < W256) (w : World) : (binOp .neq 23 (hv a) (hv b)).run Try.prog w = .ok (.bool (a != b)) w := by
  rw [show (a != b) = !(a == b) from rfl, ← byt_all a b ha hb]
  exact run_neq_ints 23 5 32 .u8 .u8 (hcs a) (hcs b) (byt a) (byt b) w Try.underlying23 Try.underlying5 isAgg_u8 sizeOf_u8 (fun i hi => hcs_get a i hi) (fun i hi => hcs_get b i hi)
/-- 32 bytes are a number -/
def hnum (f : Nat → Int) : Nat → Nat
  | 0 => 0
  | n + 1 => hnum f n + 2 ^ (8 * n) * (f n).toNat
theorem hnum_lt (f : Nat → Int) : ∀ n, (∀ i, i < n → 0 ≤ f i ∧ f i ≤ 255) → hnum f n < 2 ^ (8 * n)
  | 0, _ => by simp [hnum]
  | n + 1, h => by
    have ih := hnum_lt f n (fun i hi => h i (by omega))
    obtain ⟨h0, h1⟩ := h n (by omega)
    have hf : (f n).toNat ≤ 255 := by omega
    have := Nat.mul_le_mul_left (2 ^ (8 * n)) hf
    rw [show 2 ^ (8 * (n + 1)) = 2 ^ (8 * n) * 2 ^ 8 from Nat.pow_add 2 (8 * n) 8]
    unfold hnum
    omega
theorem hnum_byte (f : Nat → Int) : ∀ n, (∀ i, i < n → 0 ≤ f i ∧ f i ≤ 255) → ∀ i, i < n → bn (hnum f n) i = (f i).toNat
  | 0, _, _, hi => by omega
  | n + 1, h, i, hi => by
    have hlt := hnum_lt f n (fun i hi => h i (by omega))
    obtain ⟨h0, h1⟩ := h n (by omega)
    unfold hnum
    by_cases hin : i < n
    · rw [← hnum_byte f n (fun i hi => h i (by omega)) i hin]
      unfold bn
      rw [show 2 ^ (8 * n) * (f n).toNat = 2 ^ (8 * i) * (2 ^ (8 * (n - i)) * (f n).toNat) from by rw [← Nat.mul_assoc, ← Nat.pow_add]; congr 2; omega]
      rw [Nat.add_mul_div_left _ _ (Nat.two_pow_pos _)]
      rw [show 2 ^ (8 * (n - i)) * (f n).toNat = 2 ^ 8 * (2 ^ (8 * (n - i) - 8) * (f n).toNat) from by rw [← Nat.mul_assoc, ← Nat.pow_add]; congr 2; omega]
      rw [Nat.add_mul_mod_self_left]
    · obtain rfl : i = n := by omega
      unfold bn
      rw [Nat.add_mul_div_left _ _ (Nat.two_pow_pos _), Nat.div_eq_of_lt hlt, Nat.zero_add]
      omega
theorem hls_of (f : Nat → Int) (h : ∀ i, i < 32 → 0 ≤ f i ∧ f i ≤ 255) : ((List.range 32).map fun i => Value.int .u8 (f i)) = hls (hnum f 32) := by
  unfold hls
  apply List.map_congr_left
  intro i hi
  rw [byt_eq, hnum_byte f 32 h i (List.mem_range.1 hi)]
  have := h i (List.mem_range.1 hi)
  congr 1; omega
set_option maxRecDepth 100000 in
theorem open_hash {H : Type} {enc : TypeId × Value → H} {w : World} {base b0 : Nat} {spare : Nat → Bool} {held : Bool} {r : Reach} {v : Value} {d : DataW H} {p : List MemPlace}
    (hv : Value.okWide Try.prog w r b0 23 v) (h : DataW.Trod enc Try.prog w base spare held 23 v d p) : ∃ n, n < W256 ∧ v = .agg (hcs n) := by
  obtain ⟨f, rfl, hw⟩ := open_arr (n := 32) (k := .u8) Try.underlying23 Try.underlying5 (by kernel_rfl) (by kernel_rfl) hv h
  have b : ∀ i, i < 32 → 0 ≤ f i ∧ f i ≤ 255 := fun i hi => by first | exact bounds_u8 (hw i hi) | (have := hw i hi; simp [Lit.wf, IntKind.min, IntKind.max] at this; omega)
  refine ⟨hnum f 32, hnum_lt f 32 b, ?_⟩
  unfold hcs
  rw [← hls_of f b]
end Go.Proofs.Ytppcccocnmhbgaa
end

section
/- Rows of elements of one cell: a row with room; slices in a slice. No program in sight. -/
namespace Go.Proofs.Ytppcccocnmhbgaa
open Go Go.RowKit

/-- 'append(nil[:0], make(n)..)': a row of noughts, cut to nothing, has room -/
theorem run_append_room_nil {P : Program} (w : World) (t tn ty e : TypeId) (i : TypeInfo) (z : Value) (ht : P.underlying t = some (.slice e)) (htn : P.underlying tn = some (.int .i64)) (hi : P.info? e = some i) (hz : i.zero = some z) (hs : i.size = 1) (hzs : z.cells.size = 1) (n : Nat) (h0 : 0 < n) (hb : n * i.bytes ≤ 140737488355328) (hn : n ≤ 4611686018427387904) :
    ∃ g cap w', (Builtin.append_ #[t, tn] ty #[.slice none 0 0, .int .i64 (n : Int)]).run P w = .ok (.slice (some ⟨g, 0, none⟩) n cap) w' ∧ RowV w' e 1 (.slice (some ⟨g, 0, none⟩) 0 cap) 0 [] (some g) ∧ n ≤ cap ∧ cap ≤ maxLen ∧ w.heap.size ≤ g ∧ Below w.heap.size w w' := by
  have hr := Lib.run_append_grow_zeros w t tn ty e i z .i64 .i64 ht htn hi hz none 0 0 [] (run_firstCells_none w.drew i.size 0 0 0) n h0 (by omega) (by omega) (by omega) (by omega) (growslice_fits (by omega) (by rw [Nat.zero_add]; exact hb))
  rw [Nat.zero_add] at hr
  refine ⟨_, _, _, hr, ⟨by simp, .inr ⟨w.heap.size, _, _, rfl, rfl, Blk.new w.drew _ e, Nat.zero_le _, ?_, ?_, by simp⟩⟩, grownCap_ge _ _ _ _, ?_, Nat.le_refl _, ((Below.refl w.heap.size w).drew).alloc (Nat.le_refl _) _⟩
  · have := grownCap_ge w n 0 e
    simp [Builtin.zeroCells, hzs]
    omega
  · exact grownCap_le_maxLen w n 0 e (by unfold maxLen; omega)
  · exact grownCap_le_maxLen w n 0 e (by unfold maxLen; omega)
def lenL (L : Nat → Nat) : Nat → Nat
  | 0 => 0
  | n + 1 => lenL L n + L n
def catL (cs : Nat → List Value) : Nat → List Value
  | 0 => []
  | n + 1 => catL cs n ++ cs n
theorem lenL_mono (L : Nat → Nat) {a b : Nat} (h : a ≤ b) : lenL L a ≤ lenL L b := by
  induction h with
  | refl => exact Nat.le_refl _
  | step _ ih => exact Nat.le_trans ih (Nat.le_add_right _ _)
/-- n slices in a slice, each of elements of one cell -/
def CatIn (w : World) (q : Option Addr) (n : Nat) (A : Nat → Option Addr) (L C : Nat → Nat) (cs : Nat → List Value) : Prop :=
  ∀ i, i < n → ∃ b o, q = some ⟨b, o, none⟩ ∧ w.cell? ⟨b, o + i, none⟩ = some (.slice (A i) (L i) (C i)) ∧ (cs i).length = L i ∧ (∀ u ∈ cs i, u.oneCell' = true) ∧ (0 < L i → ∃ pb po, A i = some ⟨pb, po, none⟩ ∧ ∀ j u, (cs i)[j]? = some u → w.cell? ⟨pb, po + j, none⟩ = some u)
theorem CatIn.below {w w' : World} {q : Option Addr} {n : Nat} {A : Nat → Option Addr} {L C : Nat → Nat} {cs : Nat → List Value} (h : CatIn w q n A L C cs) (hb : Below w.heap.size w w') : CatIn w' q n A L C cs := fun i hi => by
  obtain ⟨b, o, h1, h2, h3, h4, h5⟩ := h i hi
  refine ⟨b, o, h1, (hb.cell (p := ⟨b, o + i, none⟩) (cell_lt h2)).trans h2, h3, h4, fun h0 => ?_⟩
  obtain ⟨pb, po, e1, e2⟩ := h5 h0
  exact ⟨pb, po, e1, fun j u hu => (hb.cell (p := ⟨pb, po + j, none⟩) (cell_lt (e2 j u hu))).trans (e2 j u hu)⟩
/-- append onto a row, also of nothing -/
theorem rowV_appendN {P : Program} {w : World} {e : TypeId} {v : Value} {n : Nat} {cs : List Value} {o : Option Nat} (t ty : TypeId) (i : TypeInfo) (z : Value) {by1 : Nat} (ht : P.underlying t = some (.slice e)) (hi : P.info? e = some i) (hz : i.zero = some z) (hs : i.size = 1) (hby : i.bytes = by1) (hzs : z.cells.size = 1)
    (h : RowV w e 1 v n cs o) {p : Option Addr} {m c : Nat} {news : List Value} (hl : news.length = m) (h1 : ∀ u ∈ news, u.oneCell' = true) (hp : 0 < m → ∃ pb po, p = some ⟨pb, po, none⟩ ∧ ∀ j u, news[j]? = some u → w.cell? ⟨pb, po + j, none⟩ = some u) (hmax : n + m ≤ maxLen) (hb : (n + m) * by1 ≤ 140737488355328) :
    ∃ v' w' o', (Builtin.append_ #[t, t] ty #[v, .slice p m c]).run P w = .ok v' w' ∧ RowV w' e 1 v' (n + m) (cs ++ news) o' ∧ (o' = o ∨ ∃ g', o' = some g' ∧ w.heap.size ≤ g') ∧ Keep (fun k => o = some k) w w' := by
  by_cases h0 : 0 < m
  · obtain ⟨pb, po, rfl, hc⟩ := hp h0
    obtain ⟨v', w', g', r1, r2, r3, r4⟩ := rowV_append (P := P) t ty i z ht hi hz hs hby hzs (by decide) h (a := ⟨pb, po, none⟩) (m := m) (c := c) (news := news) (by omega) (fun j u hu => by rw [Addr.add_lit]; exact hc j u hu) h1 h0 hmax hb
    exact ⟨v', w', some g', r1, r2, r3.imp (fun h => h.symm) (fun h => ⟨g', rfl, h⟩), r4⟩
  · obtain rfl : m = 0 := by omega
    obtain rfl : news = [] := List.eq_nil_of_length_eq_zero hl
    obtain ⟨q, c2, rfl, hle, hc2, _⟩ := h.form
    refine ⟨_, w, o, ?_, by rw [List.append_nil]; exact h, .inl rfl, Keep.refl _ _⟩
    cases q <;> cases p <;> simp [Builtin.append_, run_underlying ht, sizeOf, typeInfo, hi, Builtin.lenOf, hle, Builtin.firstCells, loadCells, loadCellsFrom, storeCells]
theorem own_step {w0 w w' : World} {G : Nat} {o o' : Option Nat} (hG : w0.heap.size = G) (hb : Below G w0 w) (ho : ∀ g, o = some g → G ≤ g) (h : o' = o ∨ ∃ g', o' = some g' ∧ w.heap.size ≤ g') (hk : Keep (fun k => o = some k) w w') : (∀ g, o' = some g → G ≤ g) ∧ Below G w0 w' := by
  subst hG
  refine ⟨fun g hg => ?_, hb.trans (hk.below hb.size (fun k hk => ho k hk))⟩
  rcases h with h | ⟨g', h1, h2⟩
  · exact ho g (h ▸ hg)
  · rw [h1] at hg; cases hg; have := hb.size; omega
end Go.Proofs.Ytppcccocnmhbgaa
end

section
/- Small things that many walks want. -/
namespace Go.Proofs.Ytppcccocnmhbgaa
open Go Go.RowKit
set_option linter.unusedSimpArgs false
set_option linter.unusedVariables false
set_option maxRecDepth 100000

theorem two_blocks (w : World) (c1 c2 : Array Value) (t1 t2 : TypeId) : Blk ((w.alloc (.cells c1 t1)).alloc (.cells c2 t2)) w.heap.size c1 t1 ∧ Blk ((w.alloc (.cells c1 t1)).alloc (.cells c2 t2)) (w.heap.size + 1) c2 t2 ∧ Below w.heap.size w ((w.alloc (.cells c1 t1)).alloc (.cells c2 t2)) := by
  have b1 := Blk.new w c1 t1
  have k := (Below.refl (w.alloc (.cells c1 t1)).heap.size (w.alloc (.cells c1 t1))).alloc (Nat.le_refl _) (.cells c2 t2)
  have hs : (w.alloc (.cells c1 t1)).heap.size = w.heap.size + 1 := by simp
  refine ⟨b1.beyond k, ?_, ((Below.refl w.heap.size w).alloc (Nat.le_refl _) _).alloc (by rw [hs]; omega) _⟩
  have := Blk.new (w.alloc (.cells c1 t1)) c2 t2
  rw [hs] at this; exact this
theorem u8info' : (Try.prog.info? 5).map (fun i => (i.zero, i.size, i.bytes)) = some (some (.int .u8 0), 1, 1) := by kernel_rfl
end Go.Proofs.Ytppcccocnmhbgaa
end

section
/- The filter of nothing (awake). -/
namespace Go.Proofs.Ytppcccocnmhbgaa
open Go Go.RowKit
set_option linter.unusedSimpArgs false
set_option linter.unusedVariables false
set_option maxRecDepth 100000

theorem once_nil (w : World) : Calls Try.prog 31 #[.slice none 0 0] w fun e w' => e = .returned (.slice none 0 0) ∧ Below w.heap.size w w' := by
  go_enter Try.func31, Try.ntmps31
  go_wp2_with (refine wpl_makeMap rfl _ rfl ?_)
  go_loopg [4, 10] 1 (fun gh l i wx => l = .slice none 0 0 ∧ i = .int .i64 0 ∧ wx = w.alloc (.map #[] 0))
  case atStart => exact ⟨rfl, rfl, rfl⟩
  case round =>
    obtain ⟨rfl, rfl, rfl⟩ := hrel
    go_wp2
    go_ret
    exact ⟨rfl, (Below.refl _ _).alloc (Nat.le_refl _) _⟩
theorem enc_small (n : Nat) (hn : n < 253) (w : World) : Calls Try.prog 36 #[.int .u64 (n : Int)] w fun e w' => e = .returned (.slice (some ⟨w.heap.size, 0, none⟩) 1 1) ∧ w' = w.alloc (.cells #[.int .u8 (n : Int)] 5) := by
  have h1 : (n : Int) < 253 := by omega
  go_enter Try.func36, Try.ntmps36
  go_wp2
  go_ret
  exact ⟨rfl, rfl⟩
theorem none_rice (p : Nat) (w : World) (h : w.cell? ⟨p, 0, none⟩ = some (.bool true)) : Calls Try.prog 68 #[.pointer (some ⟨p, 0, none⟩)] w fun e w' => e = .returned (.bool false) ∧ w = w' := by
  go_enter Try.func68, Try.ntmps68
  go_wp2
  go_ret
  exact ⟨rfl, rfl⟩
theorem rice_new (w : World) : Calls Try.prog 34 #[] w fun e w' => e = .returned (.pointer (some ⟨w.heap.size, 0, none⟩)) ∧ Blk w' w.heap.size #[.bool true, .slice none 0 0, .int .i64 0] 105 ∧ Below w.heap.size w w' := by
  go_enter Try.func34, Try.ntmps34
  go_wp2
  go_ret
  exact ⟨rfl, Blk.new _ _ _, (Below.refl _ _).alloc (Nat.le_refl _) _⟩
theorem rice_bytes0 (p : Nat) (u : Value) (w : World) (h : Blk w p #[.bool true, .slice none 0 0, u] 105) : Calls Try.prog 37 #[.pointer (some ⟨p, 0, none⟩)] w fun e w' => e = .returned (.slice none 0 0) ∧ w = w' := by
  have P := Lib.hid (none_rice p w (h.cell 0))
  have Q := Lib.hid (Try.bytes_Clone_nil 0 0 w)
  have c := h.cell
  clear h
  go_enter Try.func37, Try.ntmps37
  go_wp2_with fail
  refine P.out.mono ?_
  rintro e w1 ⟨rfl, rfl⟩
  go_wp2_with fail
  refine Q.out.mono ?_
  rintro e w1 ⟨rfl, rfl⟩
  go_wp2
  go_ret
  exact ⟨rfl, rfl⟩
theorem len64_0 (w : World) : Calls Try.prog 67 #[.int .u64 0] w fun e w' => e = .returned (.int .i64 0) ∧ w = w' := (Try.bits_Len 0 w (by decide) (by decide)).mono fun _ _ ⟨h1, h2⟩ => ⟨h1, h2.symm⟩
theorem insort0 (w : World) : Calls Try.prog 93 #[.slice none 0 0, .int .i64 0, .int .i64 0] w fun e w' => e = .returned (.tuple #[]) ∧ w = w' := by
  go_enter Try.func93, Try.ntmps93
  go_wp2
  go_loopg [6] 1 (fun gh i wx => i = .int .i64 1 ∧ wx = w)
  case atStart => exact ⟨rfl, rfl⟩
  case round =>
    obtain ⟨rfl, rfl⟩ := hrel
    go_wp2
    go_end0
    exact ⟨rfl, rfl⟩
theorem pdq0 (w : World) : Calls Try.prog 66 #[.slice none 0 0, .int .i64 0, .int .i64 0, .int .i64 0] w fun e w' => e = .returned (.tuple #[]) ∧ w = w' := by
  have P := Lib.hid (insort0 w)
  go_enter Try.func66, Try.ntmps66
  go_wp2
  go_loopg [1, 2, 3, 8, 9] 1 (fun gh a b l x y wx => a = .int .i64 0 ∧ b = .int .i64 0 ∧ l = .int .i64 0 ∧ x = .bool true ∧ y = .bool true ∧ wx = w)
  case atStart => exact ⟨rfl, rfl, rfl, rfl, rfl, rfl⟩
  case round =>
    obtain ⟨rfl, rfl, rfl, rfl, rfl, rfl⟩ := hrel
    go_wp2_with fail
    refine P.out.mono ?_
    rintro e w1 ⟨rfl, rfl⟩
    go_wp2
    exact bodyPost_ret (results_none Try.results66 _ _ _) rfl ⟨rfl, rfl⟩
theorem sort0 (w : World) : Calls Try.prog 33 #[.slice none 0 0] w fun e w' => e = .returned (.tuple #[]) ∧ w = w' := by
  have P := Lib.hid (len64_0 w)
  have Q := Lib.hid (pdq0 w)
  go_enter Try.func33, Try.ntmps33
  go_wp2_with fail
  refine P.out.mono ?_
  rintro e w1 ⟨rfl, rfl⟩
  go_wp2_with fail
  refine Q.out.mono ?_
  rintro e w1 ⟨rfl, rfl⟩
  go_wp2
  go_end0
  exact ⟨rfl, rfl⟩
end Go.Proofs.Ytppcccocnmhbgaa
end

section
/- Bits in bytes: plain facts, no program in sight. -/
namespace Go.Proofs.Ytppcccocnmhbgaa
open Go Go.RowKit

/-- byte i of the first k bits of l -/
def accB (l : List Bool) : Nat → Nat → Nat
  | 0, _ => 0
  | k + 1, i => if k / 8 = i ∧ l.getD k false = true then accB l k i ||| 2 ^ (7 - k % 8) else accB l k i
theorem accB_bit (l : List Bool) (k i j : Nat) : (accB l k i).testBit j = (decide (j < 8 ∧ 8 * i + (7 - j) < k) && l.getD (8 * i + (7 - j)) false) := by
  induction k with
  | zero => simp [accB]
  | succ k ih =>
    unfold accB
    by_cases h : k / 8 = i ∧ l.getD k false = true
    · rw [if_pos h, Nat.testBit_or, ih, Nat.testBit_two_pow]
      obtain ⟨h1, h2⟩ := h
      by_cases hj : 7 - k % 8 = j
      · have e : 8 * i + (7 - j) = k := by omega
        have hj8 : j < 8 := by omega
        rw [e, h2, hj]; simp [hj8]
      · rw [Bool.eq_iff_iff]; simp [hj]
        intro hj8 _
        omega
    · rw [if_neg h, ih]
      by_cases e : j < 8 ∧ 8 * i + (7 - j) = k
      · have h2 : l.getD k false = false := by
          rcases Bool.eq_false_or_eq_true (l.getD k false) with h3 | h3
          · exact absurd ⟨by omega, h3⟩ h
          · exact h3
        rw [e.2, h2]; simp
      · have : decide (j < 8 ∧ 8 * i + (7 - j) < k) = decide (j < 8 ∧ 8 * i + (7 - j) < k + 1) := by
          rw [decide_eq_decide]; omega
        rw [this]
theorem accB_lt (l : List Bool) (k i : Nat) : accB l k i < 256 := by
  have : accB l k i < 2 ^ 8 := Nat.lt_pow_two_of_testBit _ fun j hj => by
    rw [accB_bit]; simp; omega
  exact this
/-- beyond the bits that were done a byte is nought -/
theorem accB_zero (l : List Bool) (k i : Nat) (h : k ≤ 8 * i) : accB l k i = 0 := by
  apply Nat.eq_of_testBit_eq; intro j
  rw [accB_bit, Nat.zero_testBit]; simp; intro _ _; omega
theorem accB_append (l m : List Bool) (k i : Nat) (h : k ≤ l.length) : accB (l ++ m) k i = accB l k i := by
  apply Nat.eq_of_testBit_eq; intro j
  rw [accB_bit, accB_bit]
  by_cases hj : j < 8 ∧ 8 * i + (7 - j) < k
  · rw [decide_eq_true hj]; simp [List.getD, List.getElem?_append_left (show 8 * i + (7 - j) < l.length from by omega)]
  · rw [decide_eq_false hj]; rfl
/-- how many bytes so many bits take -/
def nby (n : Nat) : Nat := (n + 7) / 8
/-- the first k bits of l in the bytes of all -/
def part (l : List Bool) (k : Nat) : List Int := (List.range (nby l.length)).map fun i => (accB l k i : Int)
/-- all bits, in bytes -/
def pack (l : List Bool) : List Int := part l l.length
theorem part_length (l : List Bool) (k : Nat) : (part l k).length = nby l.length := by simp [part]
theorem pack_length (l : List Bool) : (pack l).length = nby l.length := part_length _ _
theorem part_get (l : List Bool) (k i : Nat) (h : i < nby l.length) : (part l k)[i]? = some ((accB l k i : Nat) : Int) := by simp [part, h]
theorem u8part_get (l : List Bool) (k i : Nat) (h : i < nby l.length) : (u8s (part l k))[i]? = some (.int .u8 ((accB l k i : Nat) : Int)) := by simp [u8s, part, h]
theorem part_zero (l : List Bool) : u8s (part l 0) = List.replicate (nby l.length) (Value.int .u8 0) := by
  apply List.ext_getElem?; intro i
  by_cases h : i < nby l.length
  · rw [u8part_get l 0 i h, List.getElem?_replicate, if_pos h]; rfl
  · rw [List.getElem?_eq_none (by simp [u8s, part_length]; omega), List.getElem?_replicate, if_neg h]
/-- the next bit is a nought -/
theorem part_skip (l : List Bool) (k : Nat) (h : l.getD k false = false) : part l (k + 1) = part l k := by
  unfold part; congr 1; funext i
  rw [accB, if_neg (fun hh => by rw [h] at hh; cases hh.2)]
/-- the next bit is a one -/
theorem part_one (l : List Bool) (k : Nat) (h : l.getD k false = true) : u8s (part l (k + 1)) = (u8s (part l k)).set (k / 8) (.int .u8 ((accB l k (k / 8) ||| 2 ^ (7 - k % 8) : Nat) : Int)) := by
  apply List.ext_getElem?; intro i
  by_cases hi : i < nby l.length
  · rw [u8part_get l _ i hi, List.getElem?_set]
    by_cases hk : k / 8 = i
    · subst hk
      rw [if_pos rfl, if_pos (by simpa [u8s, part_length] using hi), accB, if_pos ⟨rfl, h⟩]
    · rw [if_neg hk, u8part_get l k i hi, accB, if_neg (by simp [hk])]
  · rw [List.getElem?_eq_none (by simp [u8s, part_length]; omega), List.getElem?_eq_none (by simp [u8s, part_length]; omega)]
theorem nby_succ (n : Nat) : nby (n + 1) = if n % 8 = 0 then nby n + 1 else nby n := by unfold nby; split <;> omega
theorem div_nby (n : Nat) : n / 8 < nby (n + 1) := by unfold nby; omega
/-- a bit more: first its byte, if it is a new one -/
theorem pack_room (l : List Bool) (b : Bool) : u8s (part (l ++ [b]) l.length) = if l.length % 8 = 0 then u8s (pack l) ++ [.int .u8 0] else u8s (pack l) := by
  have hl : (l ++ [b]).length = l.length + 1 := by simp
  apply List.ext_getElem?; intro i
  by_cases hi : i < nby (l.length + 1)
  · rw [u8part_get _ _ i (by rw [hl]; exact hi), accB_append l [b] _ i (Nat.le_refl _)]
    rw [nby_succ] at hi
    by_cases h8 : l.length % 8 = 0
    · rw [if_pos h8] at hi ⊢
      by_cases he : i < nby l.length
      · rw [List.getElem?_append_left (by simpa [u8s, pack_length] using he)]
        exact (u8part_get l _ i he).symm
      · have e : i = nby l.length := by omega
        subst e
        rw [List.getElem?_append_right (by simp [u8s, pack_length]), accB_zero _ _ _ (by unfold nby; omega)]
        simp [u8s, pack_length]
    · rw [if_neg h8] at hi ⊢
      exact (u8part_get l _ i hi).symm
  · have h1 : (u8s (part (l ++ [b]) l.length))[i]? = none := List.getElem?_eq_none (by simp [u8s, part_length]; omega)
    rw [h1]; symm
    rw [nby_succ] at hi
    split
    · rename_i h; rw [if_pos h] at hi; exact List.getElem?_eq_none (by simp [u8s, pack_length]; omega)
    · rename_i h; rw [if_neg h] at hi; exact List.getElem?_eq_none (by simp [u8s, pack_length]; omega)
theorem getD_last (l : List Bool) (b : Bool) : (l ++ [b]).getD l.length false = b := by simp [List.getD]
/-- .. then the bit itself -/
theorem pack_bit (l : List Bool) (b : Bool) : u8s (pack (l ++ [b])) = (u8s (part (l ++ [b]) l.length)).set (l.length / 8) (.int .u8 ((accB l l.length (l.length / 8) ||| (b.toNat * 2 ^ (7 - l.length % 8)) : Nat) : Int)) := by
  have hl : (l ++ [b]).length = l.length + 1 := by simp
  unfold pack
  rw [hl]
  cases b with
  | true =>
    rw [part_one _ _ (getD_last l true), accB_append l _ _ _ (Nat.le_refl _), Bool.toNat_true, Nat.one_mul]
  | false =>
    rw [part_skip _ _ (getD_last l false)]
    have h : l.length / 8 < nby (l ++ [false]).length := by rw [hl]; exact div_nby _
    rw [Bool.toNat_false, Nat.zero_mul, Nat.or_zero, ← accB_append l [false] _ _ (Nat.le_refl _)]
    symm
    apply List.ext_getElem?; intro i
    rw [List.getElem?_set]
    split
    · rename_i e; subst e
      rw [if_pos (by simpa [u8s, part_length] using h), u8part_get _ _ _ h]
    · rfl
/-- the lowest bits of n, the highest of them first -/
def bitsOf (n : Nat) : Nat → List Bool
  | 0 => []
  | k + 1 => n.testBit k :: bitsOf n k
theorem bitsOf_length (n k : Nat) : (bitsOf n k).length = k := by induction k with | zero => rfl | succ k ih => simp [bitsOf, ih]
def bitsE (c : Int) : Int := if c < 0 ∨ 64 < c then 1 else 0
def bitsL (l : List Bool) (n : Nat) (c : Int) : List Bool := if c < 0 ∨ 64 < c then l else l ++ bitsOf n c.toNat
/-- n by quotient and rest -/
def riceE (n : Nat) (c : Int) : Int := if c < 0 ∨ 32 < c ∨ 65535 < n / 2 ^ c.toNat then 1 else 0
def riceL (l : List Bool) (n : Nat) (c : Int) : List Bool := if c < 0 ∨ 32 < c ∨ 65535 < n / 2 ^ c.toNat then l else l ++ List.replicate (n / 2 ^ c.toNat) true ++ [false] ++ bitsOf n c.toNat
end Go.Proofs.Ytppcccocnmhbgaa
end

section
/- Small facts on bits and bytes, for whoever reads or writes them. -/
namespace Go.Proofs.Ytppcccocnmhbgaa
open Go Go.RowKit
set_option maxRecDepth 100000
set_option linter.unusedSimpArgs false

/-- the blocks of a writer -/
def foot (p : Nat) (o : Option Nat) : Nat → Prop := fun k => k = p ∨ o = some k
theorem u8info : (Try.prog.info? 5).map (fun i => (i.zero, i.size, i.bytes)) = some (some (.int .u8 0), 1, 1) := by kernel_rfl
theorem i64_rem8 (n : Nat) (h : n ≤ 1099511627776) : IntKind.i64.wrap ((n : Int).tmod 8) = ((n % 8 : Nat) : Int) := by
  rw [Int.tmod_eq_emod_of_nonneg (by omega)]
  exact (IntWalk.i64_in _ (by omega)).trans (by omega)
theorem i64_quo8 (n : Nat) (h : n ≤ 1099511627776) : IntKind.i64.wrap ((n : Int).tdiv 8) = ((n / 8 : Nat) : Int) := by
  rw [Int.tdiv_eq_ediv_of_nonneg (by omega)]
  exact (IntWalk.i64_in _ (by omega)).trans (by omega)
theorem bit_put (n k : Nat) (h : n < 18446744073709551616) : bits .and .u64 ((n : Int) / 2 ^ k) 1 = ((n.testBit k).toNat : Int) := by
  rw [← bt_eq]
  have e : ((n : Int) / 2 ^ k) = ((n / 2 ^ k : Nat) : Int) := by rw [Int.natCast_ediv, Int.natCast_pow]; rfl
  rw [e, and1 _ (Nat.lt_of_le_of_lt (Nat.div_le_self _ _) h)]; rfl
theorem tb_eq (b : Bool) : (((b.toNat : Nat) : Int) == 1) = b := by cases b <;> rfl
def uOf : Value → Nat | .int _ z => z.toNat | _ => 0
end Go.Proofs.Ytppcccocnmhbgaa
end

section
/- Bits out of bytes: plain facts, no program in sight. -/
namespace Go.Proofs.Ytppcccocnmhbgaa
open Go Go.RowKit

/-- bit j of a byte, the highest first -/
def zb (x : Int) (j : Nat) : Bool := x.toNat.testBit (7 - j)
def unpack : List Int → List Bool
  | [] => []
  | x :: r => zb x 0 :: zb x 1 :: zb x 2 :: zb x 3 :: zb x 4 :: zb x 5 :: zb x 6 :: zb x 7 :: unpack r
theorem unpack_length (Z : List Int) : (unpack Z).length = 8 * Z.length := by induction Z with | nil => rfl | cons x r ih => simp [unpack, ih]; omega
theorem unpack_get : ∀ (Z : List Int) (k : Nat), k < 8 * Z.length → (unpack Z)[k]? = some (zb (Z.getD (k / 8) 0) (k % 8))
  | [], k, h => by simp at h
  | x :: r, k, h => by
    by_cases hk : k < 8
    · rcases (by omega : k = 0 ∨ k = 1 ∨ k = 2 ∨ k = 3 ∨ k = 4 ∨ k = 5 ∨ k = 6 ∨ k = 7) with h | h | h | h | h | h | h | h <;> subst h <;> rfl
    · obtain ⟨j, rfl⟩ : ∃ j, k = j + 8 := ⟨k - 8, by omega⟩
      have ih := unpack_get r j (by simp at h; omega)
      rw [show (j + 8) / 8 = j / 8 + 1 from by omega, show (j + 8) % 8 = j % 8 from by omega, List.getD_cons_succ, ← ih]
      simp [unpack]
theorem unpack_drop (x : Int) (r : List Int) (t : Nat) (h : t < 8) : (unpack (x :: r)).drop t = zb x t :: (unpack (x :: r)).drop (t + 1) := by
  rcases (by omega : t = 0 ∨ t = 1 ∨ t = 2 ∨ t = 3 ∨ t = 4 ∨ t = 5 ∨ t = 6 ∨ t = 7) with h | h | h | h | h | h | h | h <;> subst h <;> rfl
theorem unpack_eight (x : Int) (r : List Int) : (unpack (x :: r)).drop 8 = unpack r := rfl
/-- what was packed, and noughts up to a whole byte -/
theorem unpack_pack (l : List Bool) : unpack (pack l) = l ++ List.replicate (8 * nby l.length - l.length) false := by
  have hn : l.length ≤ 8 * nby l.length := by unfold nby; omega
  apply List.ext_getElem?; intro k
  by_cases hk : k < 8 * nby l.length
  · rw [unpack_get _ _ (by rw [pack_length]; exact hk)]
    have hb : k / 8 < nby l.length := by omega
    have e1 : (pack l).getD (k / 8) 0 = ((accB l l.length (k / 8) : Nat) : Int) := by
      rw [List.getD_eq_getElem?_getD]
      unfold pack
      rw [part_get l _ _ hb]; rfl
    rw [e1]
    unfold zb
    rw [Int.toNat_natCast, accB_bit, show 8 * (k / 8) + (7 - (7 - k % 8)) = k from by omega]
    by_cases hl : k < l.length
    · rw [List.getElem?_append_left hl]
      have : decide (7 - k % 8 < 8 ∧ k < l.length) = true := decide_eq_true ⟨by omega, hl⟩
      rw [this]
      simp [List.getD, hl]
    · rw [List.getElem?_append_right (by omega), List.getElem?_replicate, if_pos (by omega)]
      simp [hl]
  · rw [List.getElem?_eq_none (by rw [unpack_length, pack_length]; omega), List.getElem?_eq_none (by simp; omega)]
theorem pad_lt (l : List Bool) : 8 * nby l.length - l.length < 8 := by unfold nby; omega
theorem pack_range (l : List Bool) : ∀ x ∈ pack l, 0 ≤ x ∧ x < 256 := by
  intro x hx
  simp only [pack, part, List.mem_map, List.mem_range] at hx
  obtain ⟨i, _, rfl⟩ := hx
  have := accB_lt l l.length i
  omega
/-- bits as a number -/
def valOf (s : List Bool) : Nat := s.foldl (fun n b => 2 * n + b.toNat) 0
theorem foldl_bitsOf (n m : Nat) : ∀ c, (bitsOf n c).foldl (fun n b => 2 * n + b.toNat) m = m * 2 ^ c + n % 2 ^ c
  | 0 => by simp [bitsOf, Nat.mod_one]
  | c + 1 => by
    rw [bitsOf, List.foldl_cons, foldl_bitsOf n _ c]
    have e : n % 2 ^ (c + 1) = n % 2 ^ c + 2 ^ c * (n.testBit c).toNat := by rw [Nat.mod_pow_succ, Nat.toNat_testBit]
    rw [e, Nat.pow_succ, Nat.add_mul]
    have : (n.testBit c).toNat * 2 ^ c = 2 ^ c * (n.testBit c).toNat := Nat.mul_comm _ _
    have : 2 * m * 2 ^ c = m * (2 ^ c * 2) := by rw [Nat.mul_comm 2 m, Nat.mul_assoc, Nat.mul_comm 2]
    omega
theorem valOf_bitsOf (n c : Nat) : valOf (bitsOf n c) = n % 2 ^ c := by unfold valOf; rw [foldl_bitsOf]; omega
theorem valOf_snoc (s : List Bool) (b : Bool) : valOf (s ++ [b]) = 2 * valOf s + b.toNat := by simp [valOf]
theorem valOf_lt (s : List Bool) : valOf s < 2 ^ s.length := by
  have key : ∀ (s : List Bool) (m : Nat), s.foldl (fun n b => 2 * n + b.toNat) m < (m + 1) * 2 ^ s.length := by
    intro s
    induction s with
    | nil => intro m; simp
    | cons b s ih =>
      intro m
      refine Nat.lt_of_lt_of_le (ih _) ?_
      rw [List.length_cons, Nat.pow_succ, Nat.mul_comm _ 2, ← Nat.mul_assoc]
      refine Nat.mul_le_mul_right _ ?_
      have : b.toNat ≤ 1 := Bool.toNat_le b
      show 2 * m + b.toNat + 1 ≤ _
      omega
  have := key s 0
  simpa [valOf] using this
/-- bits one list behind the other -/
def catb (B : Nat → List Bool) : Nat → Nat → List Bool
  | _, 0 => []
  | j, m + 1 => B j ++ catb B (j + 1) m
end Go.Proofs.Ytppcccocnmhbgaa
end
