import Derived.Test.YtbjbjgfjaopibaaDoorCr1
import Derived.Deep.MidRow
import Derived.Laws.Rows
import Derived.Test.YtbjbjgfjaopibaaDoorCr3
import Derived.Test.YtbjbjgfjaopibaaDoorCr2
import Derived.WalkMore
import Derived.BigFrame
section
/- Hashes: arrays of 32 bytes, as numbers; whole arrays that the walk does not open. -/
namespace Go.Proofs.YtbjbjgfjaopibaaDoor
open Go.RowKit

/-- byte k of n -/
def byt (n k : Nat) : Int := ((n / 2 ^ (8 * k) % 2 ^ 8 : Nat) : Int)
/-- the cells of api.Hash that is n -/
def hls (n : Nat) : List Value := (List.range 32).map fun k => Value.int .u8 (byt n k)
def hcs (n : Nat) : Array Value := (hls n).toArray
abbrev hv (n : Nat) : Value := .agg (hcs n)
theorem hcs_size (n : Nat) : (hcs n).size = 32 := by simp [hcs, hls]
theorem hcs_get (n k : Nat) (h : k < 32) : (hcs n)[k]? = some (.int .u8 (byt n k)) := by simp [hcs, hls, h]
theorem hls_length (n : Nat) : (hls n).length = 32 := by simp [hls]
theorem byt_range (n k : Nat) : 0 ≤ byt n k ∧ byt n k < 256 := by
  unfold byt
  have : n / 2 ^ (8 * k) % 2 ^ 8 < 2 ^ 8 := Nat.mod_lt _ (by decide)
  omega
theorem hcs_one (n : Nat) : (hcs n).all (·.oneCell') = true := by
  unfold hcs hls; rw [Array.all_eq_true]; intro i h; simp [Value.oneCell']
def bn (n k : Nat) : Nat := n / 2 ^ (8 * k) % 2 ^ 8
theorem byt_eq (n k : Nat) : byt n k = (bn n k : Int) := rfl
theorem bn_lt (n k : Nat) : bn n k < 2 ^ 8 := Nat.mod_lt _ (by decide)
theorem bn_bit (n k i : Nat) : (bn n k).testBit i = (decide (i < 8) && n.testBit (8 * k + i)) := by
  unfold bn; rw [Nat.testBit_mod_two_pow, Nat.testBit_div_two_pow, Nat.add_comm]
theorem bn_ext {a b : Nat} (ha : a < 2 ^ 256) (hb : b < 2 ^ 256) (h : ∀ k, k < 32 → bn a k = bn b k) : a = b := by
  apply Nat.eq_of_testBit_eq; intro i
  by_cases hi : i < 256
  · have := congrArg (fun x => x.testBit (i % 8)) (h (i / 8) (by omega))
    simp only [bn_bit] at this
    rw [decide_eq_true (show i % 8 < 8 from Nat.mod_lt _ (by decide))] at this
    simpa [show 8 * (i / 8) + i % 8 = i from by omega] using this
  · rw [Nat.testBit_lt_two_pow (Nat.lt_of_lt_of_le ha (Nat.pow_le_pow_right (by decide) (by omega))), Nat.testBit_lt_two_pow (Nat.lt_of_lt_of_le hb (Nat.pow_le_pow_right (by decide) (by omega)))]
theorem byt_mod (x k j : Nat) : byt (x % 2 ^ (8 * k)) j = if j < k then byt x j else 0 := by
  rw [byt_eq, byt_eq]
  have : bn (x % 2 ^ (8 * k)) j = if j < k then bn x j else 0 := by
    apply Nat.eq_of_testBit_eq; intro i
    rw [bn_bit, Nat.testBit_mod_two_pow]
    by_cases h : j < k
    · rw [if_pos h, bn_bit]
      by_cases hi : i < 8
      · rw [decide_eq_true (show 8 * j + i < 8 * k from by omega), Bool.true_and]
      · simp [hi]
    · rw [if_neg h, Nat.zero_testBit]
      by_cases hi : i < 8
      · rw [decide_eq_false (show ¬ 8 * j + i < 8 * k from by omega)]; simp
      · simp [hi]
  rw [this]; split <;> rfl
theorem hcs_ext {a b : Nat} (h : ∀ k, k < 32 → byt a k = byt b k) : hcs a = hcs b := by
  unfold hcs hls; congr 1; apply List.map_congr_left; intro k hk; rw [h k (List.mem_range.1 hk)]
theorem hcs_step (x k : Nat) : (hcs (x % 2 ^ (8 * k))).setIfInBounds k (.int .u8 (byt x k)) = hcs (x % 2 ^ (8 * (k + 1))) := by
  apply Array.ext
  · simp [hcs_size]
  · intro i h1 h2
    rw [hcs_size] at h2
    rw [Array.getElem_setIfInBounds]
    have e : ∀ n (h' : i < (hcs n).size), (hcs n)[i] = .int .u8 (byt n i) := by
      intro n h'; have := hcs_get n i h2; rw [Array.getElem?_eq_getElem h'] at this; exact Option.some.inj this
    by_cases hik : k = i
    · subst hik; rw [if_pos rfl, e, byt_mod, if_pos (by omega)]
    · rw [if_neg hik, e, e, byt_mod, byt_mod]
      by_cases h3 : i < k
      · rw [if_pos h3, if_pos (by omega)]
      · rw [if_neg h3, if_neg (by omega)]
    simpa [hcs_size] using h2
theorem hcs_zero : hcs 0 = (Array.replicate 32 (Value.int .u8 0)) := by
  apply Array.ext <;> simp [hcs, hls, byt]
/-- a part of b bits put into a number below it -/
theorem or_part (m i c b : Nat) (hm : m < 2 ^ i) (hc : c < 2 ^ b) (hb : i % 64 + b ≤ 64) :
    bits .or .u64 (wd m (i / 64)) (IntKind.u64.wrap ((c : Int) * 2 ^ (i % 64))) = wd (m + 2 ^ i * c) (i / 64) := by
  have hlt : c * 2 ^ (i % 64) < 2 ^ 64 := by
    have h1 : c * 2 ^ (i % 64) < 2 ^ b * 2 ^ (i % 64) := Nat.mul_lt_mul_of_pos_right hc (Nat.two_pow_pos _)
    rw [← Nat.pow_add] at h1
    exact Nat.lt_of_lt_of_le h1 (Nat.pow_le_pow_right (by decide) (by omega))
  rw [show (c : Int) * 2 ^ (i % 64) = ((c * 2 ^ (i % 64) : Nat) : Int) from by simp, u64_small _ hlt, wd_eq, or_u64 _ _ (wn_lt _ _) hlt, wd_eq]
  congr 1
  rw [Nat.add_comm m, Nat.two_pow_add_eq_or_of_lt hm, wn_or, Nat.or_comm]
  congr 1
  apply Nat.eq_of_testBit_eq; intro j
  rw [wn_bit, Nat.mul_comm c, Nat.testBit_two_pow_mul, Nat.testBit_two_pow_mul]
  by_cases hj : j < 64
  · rw [decide_eq_true hj, Bool.true_and]
    by_cases h2 : i % 64 ≤ j
    · rw [decide_eq_true h2, decide_eq_true (show i ≤ 64 * (i / 64) + j by omega)]
      congr 1; congr 1; omega
    · rw [decide_eq_false h2, decide_eq_false (show ¬ i ≤ 64 * (i / 64) + j by omega)]; simp
  · rw [decide_eq_false hj, Bool.false_and]
    have : c.testBit (j - i % 64) = false := Nat.testBit_lt_two_pow (Nat.lt_of_lt_of_le hc (Nat.pow_le_pow_right (by decide) (by omega)))
    rw [this]; simp
theorem wd_part_far (m i c b k : Nat) (hm : m < 2 ^ i) (hc : c < 2 ^ b) (hb : i % 64 + b ≤ 64) (hk : k ≠ i / 64) : wd (m + 2 ^ i * c) k = wd m k := by
  rw [wd_eq, wd_eq]
  congr 1
  rw [Nat.add_comm m, Nat.two_pow_add_eq_or_of_lt hm, wn_or]
  have : wn (2 ^ i * c) k = 0 := by
    apply Nat.eq_of_testBit_eq; intro j
    rw [wn_bit, Nat.testBit_two_pow_mul, Nat.zero_testBit]
    by_cases hj : j < 64
    · by_cases h2 : i ≤ 64 * k + j
      · have : c.testBit (64 * k + j - i) = false := Nat.testBit_lt_two_pow (Nat.lt_of_lt_of_le hc (Nat.pow_le_pow_right (by decide) (by omega)))
        rw [this]; simp
      · rw [decide_eq_false h2]; simp
    · rw [decide_eq_false hj]; simp
  rw [this, Nat.zero_or]
theorem wcs_part (m i c b : Nat) (hi : i < 256) (hm : m < 2 ^ i) (hc : c < 2 ^ b) (hb : i % 64 + b ≤ 64) : (wcs m).setIfInBounds (i / 64) (.int .u64 (wd (m + 2 ^ i * c) (i / 64))) = wcs (m + 2 ^ i * c) := by
  have far := fun k => wd_part_far m i c b k hm hc hb
  rcases (by omega : i / 64 = 0 ∨ i / 64 = 1 ∨ i / 64 = 2 ∨ i / 64 = 3) with h | h | h | h <;> rw [h] at far ⊢
  · rw [wcs, wcs, far 1 (by decide), far 2 (by decide), far 3 (by decide)]; rfl
  · rw [wcs, wcs, far 0 (by decide), far 2 (by decide), far 3 (by decide)]; rfl
  · rw [wcs, wcs, far 0 (by decide), far 1 (by decide), far 3 (by decide)]; rfl
  · rw [wcs, wcs, far 0 (by decide), far 1 (by decide), far 2 (by decide)]; rfl
/-- byte k of n out of its word -/
theorem byt_wd (n k : Nat) : (wd n (k / 8) / 2 ^ (8 * (k % 8))) % 256 = byt n k := by
  have e : wd n (k / 8) / 2 ^ (8 * (k % 8)) = ((wn n (k / 8) / 2 ^ (8 * (k % 8)) : Nat) : Int) := by
    rw [wd_eq, Int.natCast_ediv, Int.natCast_pow]; rfl
  rw [e, byt_eq]
  have : wn n (k / 8) / 2 ^ (8 * (k % 8)) % 2 ^ 8 = bn n k := by
    apply Nat.eq_of_testBit_eq; intro i
    rw [Nat.testBit_mod_two_pow, Nat.testBit_div_two_pow, wn_bit, bn_bit]
    by_cases hi : i < 8
    · rw [decide_eq_true hi, decide_eq_true (show i + 8 * (k % 8) < 64 by omega), Bool.true_and, Bool.true_and, Bool.true_and]
      congr 1; omega
    · rw [decide_eq_false hi]; simp
  omega
theorem i64_small8 (n : Int) (h0 : 0 ≤ n) (h1 : n < 2 ^ 8) : IntKind.i64.wrap n = n := by rw [IntKind.wrap_i64]; omega
theorem and7 (k : Nat) (h : k < 32) : bits .and .i64 (k : Int) 7 = (k : Int) % 8 :=
  bits_mask .i64 8 (by decide) i64_small8 3 (by decide) (k : Int) (by omega) (by omega)
theorem byt_wd' (n k : Nat) : (wd n (k / 8) / 2 ^ (k % 8 * 8)) % 256 = byt n k := by rw [Nat.mul_comm]; exact byt_wd n k

theorem mod_byte (h k : Nat) : h % 2 ^ (8 * (k + 1)) = h % 2 ^ (8 * k) + 2 ^ (8 * k) * bn h k := by
  unfold bn
  rw [show 2 ^ (8 * (k + 1)) = 2 ^ (8 * k) * 2 ^ 8 from Nat.pow_add 2 (8 * k) 8, Nat.mod_mul]
theorem of_or (h k : Nat) : bits .or .u64 (wd (h % 2 ^ (8 * k)) (k / 8)) (IntKind.u64.wrap (byt h k * 2 ^ (8 * (k % 8)))) = wd (h % 2 ^ (8 * (k + 1))) (k / 8) := by
  have := or_part (h % 2 ^ (8 * k)) (8 * k) (bn h k) 8 (Nat.mod_lt _ (Nat.two_pow_pos _)) (bn_lt h k) (by omega)
  rw [← mod_byte, show 8 * k / 64 = k / 8 from by omega, show 8 * k % 64 = 8 * (k % 8) from by omega] at this
  exact this
theorem of_or' (h k : Nat) : bits .or .u64 (wd (h % 2 ^ (8 * k)) (k / 8)) (IntKind.u64.wrap (byt h k * 2 ^ (k % 8 * 8))) = wd (h % 2 ^ (8 * (k + 1))) (k / 8) := by
  rw [Nat.mul_comm (k % 8) 8]; exact of_or h k
theorem of_cells (h k : Nat) (hk : k < 32) : (wcs (h % 2 ^ (8 * k))).setIfInBounds (k / 8) (.int .u64 (wd (h % 2 ^ (8 * (k + 1))) (k / 8))) = wcs (h % 2 ^ (8 * (k + 1))) := by
  have := wcs_part (h % 2 ^ (8 * k)) (8 * k) (bn h k) 8 (by omega) (Nat.mod_lt _ (Nat.two_pow_pos _)) (bn_lt h k) (by omega)
  rw [← mod_byte, show 8 * k / 64 = k / 8 from by omega] at this
  exact this

/-- an element of an array by value -/
theorem run_index_arr {P : Program} (t e : TypeId) (n i : Nat) (cs : Array Value) (v : Value) (w : World) (h : P.underlying t = some (.array n e)) (ha : ∀ w, (isAgg e).run P w = .ok false w) (hs : ∀ w, (Go.sizeOf e).run P w = .ok 1 w)
    (hi : i < n) (hv : cs[i]? = some v) : (Instr.index t (.agg cs) (.int .i64 (i : Int))).run P w = .ok v w := by
  have h1 : 0 ≤ (i : Int) ∧ (i : Int) < n := by omega
  unfold Instr.index
  simp only [asIntOf, Sem.run_bind, Sem.run_pure, Result.andThen_ok, run_underlying h, if_pos h1, Go.part, ha, hs, Int.toNat_natCast, Nat.mul_one, hv, Bool.false_eq_true, if_false]
/-! ### whole arrays -/
theorem Blk.setCells {g : Nat} {t : TypeId} : ∀ (vs : List Value) (o : Nat) (w : World) (pre post : List Value), pre.length = o → post.length = vs.length → Blk w g (pre ++ post).toArray t → Blk (w.setCells g o vs) g (pre ++ vs).toArray t
  | [], _, _, _, post, _, h2, h => by
    have : post = [] := List.length_eq_zero_iff.1 h2
    subst this; exact h
  | v :: r, o, w, pre, post, h1, h2, h => by
    match post, h2, h with
    | p :: post, h2, h =>
      have e : (pre ++ p :: post).toArray.setIfInBounds o v = ((pre ++ [v]) ++ post).toArray := by
        subst h1; simp
      have h3 := h.set o v
      rw [e] at h3
      have := Blk.setCells r (o + 1) (w.setCell ⟨g, o, none⟩ v) (pre ++ [v]) post (by simp [h1]) (by simpa using h2) h3
      simpa [World.setCells] using this
theorem Blk.setAll {w : World} {g : Nat} {c : Array Value} {t : TypeId} (h : Blk w g c t) (vs : Array Value) (hs : c.size = vs.size) : Blk (w.setCells g 0 vs.toList) g vs t := by
  have := Blk.setCells (g := g) (t := t) vs.toList 0 w [] c.toList rfl (by simp [hs]) (by simpa using h)
  simpa using this
theorem heap_setCells {g k : Nat} (h : k ≠ g) : ∀ (vs : List Value) (o : Nat) (w : World), (w.setCells g o vs).heap[k]? = w.heap[k]?
  | [], _, _ => rfl
  | v :: r, o, w => (heap_setCells h r (o + 1) _).trans (Below.heap_setCell w ⟨g, o, none⟩ v k h)
theorem size_setCells {g : Nat} : ∀ (vs : List Value) (o : Nat) (w : World), (w.setCells g o vs).heap.size = w.heap.size
  | [], _, _ => rfl
  | _ :: r, o, _ => (size_setCells r (o + 1) _).trans (by simp [World.setCell])
theorem below_setCells {B g : Nat} {a : World} (hg : B ≤ g) : ∀ (vs : List Value) (o : Nat) (w : World), Below B a w → Below B a (w.setCells g o vs)
  | [], _, _, h => h
  | v :: r, o, _, h => below_setCells hg r (o + 1) _ (h.setCell (p := ⟨g, o, none⟩) hg v)
theorem Blk.there {w : World} {g : Nat} {c : Array Value} {t : TypeId} (h : Blk w g c t) : w.there g 0 c.size := fun j hj => by
  rw [h.cell, h.free]; simp; omega
/-- A WHOLE ARRAY IS READ out of a variable. -/
theorem wpl_load {P : Program} {ops : Array Oper} {rest : List Oper} {o : Oper} {a : Act} {w : World} {Q : Exit → Act → World → Prop} (hgd : o.guard = none) (ty : TypeId) (x : Operand) (ho : o.op = .load ty x)
    {g n : Nat} {e t : TypeId} {cs : Array Value} (hx : a.eval x = .pointer (some ⟨g, 0, none⟩)) (hg : Blk w g cs t)
    (hu : P.underlying ty = some (.array n e)) (hi : (P.info? ty).map (·.size) = some cs.size)
    (h : wpList P ops Q rest (a.put o.dst (.agg cs)) w) : wpList P ops Q (o :: rest) a w :=
  wpList_load_row hgd ty x ho g hx t cs (0, 0) (.array n e) hg hu rfl hi h
/-- A WHOLE ARRAY IS STORED into a variable. -/
theorem wpl_store {P : Program} {ops : Array Oper} {rest : List Oper} {o : Oper} {a : Act} {w : World} {Q : Exit → Act → World → Prop} (hgd : o.guard = none) (ty : TypeId) (x y : Operand) (ho : o.op = .store ty x y)
    {g : Nat} {t : TypeId} {cs vs : Array Value} (hx : a.eval x = .pointer (some ⟨g, 0, none⟩)) (hy : a.eval y = .agg vs) (hg : Blk w g cs t) (hs : cs.size = vs.size)
    (hi : (P.info? ty).map (·.size) = some vs.size) (h1 : vs.all (·.oneCell') = true)
    (h : wpList P ops Q rest (a.put o.dst undef) (w.setCells g 0 vs.toList)) : wpList P ops Q (o :: rest) a w :=
  wpList_store_mid hgd ty x y ho g 0 vs hx hy (hs ▸ hg.there) hi h1 h
theorem St.set {B : Nat} {W w : World} {b : Nat} {c : Array Value} {t : TypeId} {l : List (Nat × Array Value × TypeId)} (h : St B W w ((b, c, t) :: l)) (hB : B ≤ b) (hne : ∀ x ∈ l, x.1 ≠ b) (o : Nat) (v : Value) :
    St B W (w.setCell ⟨b, o, none⟩ v) ((b, c.setIfInBounds o v, t) :: l) :=
  ⟨h.below.setCell hB v, fun x hx => by
    rcases List.mem_cons.1 hx with rfl | hx
    · exact (h.at (b := b) (c := c) (t := t) (by simp)).set o v
    · exact (h.live x (List.mem_cons_of_mem _ hx)).setFar (a := ⟨b, o, none⟩) (hne x hx) v⟩
theorem St.setAll {B : Nat} {W w : World} {b : Nat} {c : Array Value} {t : TypeId} {l : List (Nat × Array Value × TypeId)} (h : St B W w ((b, c, t) :: l)) (hB : B ≤ b) (hne : ∀ x ∈ l, x.1 ≠ b) (vs : Array Value) (hs : c.size = vs.size) :
    St B W (w.setCells b 0 vs.toList) ((b, vs, t) :: l) :=
  ⟨below_setCells hB _ _ _ h.below, fun x hx => by
    rcases List.mem_cons.1 hx with rfl | hx
    · exact (h.at (b := b) (c := c) (t := t) (by simp)).setAll vs hs
    · exact (heap_setCells (hne x hx) _ _ _).trans (h.live x (List.mem_cons_of_mem _ hx))⟩
theorem St.perm {B : Nat} {W w : World} {l l' : List (Nat × Array Value × TypeId)} (h : St B W w l) (hs : l' ⊆ l) : St B W w l' := ⟨h.below, fun x hx => h.live x (hs hx)⟩
theorem St.new3' (w : World) (c0 c1 c2 : Array Value) (t0 t1 t2 : TypeId) : St w.heap.size w (((w.alloc (.cells c0 t0)).alloc (.cells c1 t1)).alloc (.cells c2 t2)) [(w.heap.size + 1 + 1, c2, t2), (w.heap.size + 1, c1, t1), (w.heap.size, c0, t0)] := by
  have h := (St.new2 w c0 c1 t0 t1).new c2 t2
  rw [show ((w.alloc (.cells c0 t0)).alloc (.cells c1 t1)).heap.size = w.heap.size + 1 + 1 from by simp] at h
  exact h
/-- A RESULT THAT IS A WHOLE ARRAY -/
theorem results_blk {P : Program} {fn : Func} {p : Tmp} {ty : TypeId} (h : fn.results = #[.cell p ty]) (tmps : Array Value) (w : World) {g n : Nat} {e t : TypeId} {cs : Array Value}
    (hp : tmps.getD p undef = .pointer (some ⟨g, 0, none⟩)) (hg : Blk w g cs t) (hu : P.underlying ty = some (.array n e)) (hi : (P.info? ty).map (·.size) = some cs.size) :
    (results fn tmps).run P w = .ok (.agg cs) w := results_cell_row h tmps w g t cs (0, 0) (.array n e) hp hg hu rfl hi
end Go.Proofs.YtbjbjgfjaopibaaDoor
end

section
/- '==' and '!=' on hashes; a law's argument of type api.Hash; no number of four words in sight. -/
namespace Go.Proofs.YtbjbjgfjaopibaaDoor
open Go Go.ChangeShapes Go.WideShapes Go.ChangeAt Go.RowKit

theorem isAgg_u8 (w : World) : (isAgg 5).run Tryd.prog w = .ok false w := by kernel_rfl
theorem sizeOf_u8 (w : World) : (Go.sizeOf 5).run Tryd.prog w = .ok 1 w := by kernel_rfl
theorem byt_all (a b : Nat) (ha : a < W256) (hb : b < W256) : ((List.range 32).all fun i => byt a i == byt b i) = (a == b) := by
  rw [W256_eq] at *
  rw [Bool.eq_iff_iff, List.all_eq_true, beq_iff_eq]
  constructor
  · intro h
    refine bn_ext ha hb fun k hk => ?_
    have := h k (List.mem_range.2 hk)
    rw [beq_iff_eq, byt_eq, byt_eq] at this
    omega
  · rintro rfl; simp
theorem heql (a b : Nat) (ha : a < W256) (hb : b < W256) (w : World) : (binOp .eql 94 (hv a) (hv b)).run Tryd.prog w = .ok (.bool (a == b)) w := by
  rw [← byt_all a b ha hb]
  exact run_eql_ints 94 5 32 .u8 .u8 (hcs a) (hcs b) (byt a) (byt b) w Tryd.underlying94 Tryd.underlying5 isAgg_u8 sizeOf_u8 (fun i hi => hcs_get a i hi) (fun i hi => hcs_get b i hi)
theorem hneq (a b : Nat) (ha : a < W256) (hb : b < W256) (w : World) : (binOp .neq 94 (hv a) (hv b)).run Tryd.prog w = .ok (.bool (a != b)) w := by
  rw [show (a != b) = !(a == b) from rfl, ← byt_all a b ha hb]
  exact run_neq_ints 94 5 32 .u8 .u8 (hcs a) (hcs b) (byt a) (byt b) w Tryd.underlying94 Tryd.underlying5 isAgg_u8 sizeOf_u8 (fun i hi => hcs_get a i hi) (fun i hi => hcs_get b i hi)
/-- 32 bytes are a number -/
def hnum (f : Nat → Int) : Nat → Nat
  | 0 => 0
  | n + 1 => hnum f n + 2 ^ (8 * n) * (f n).toNat
theorem hnum_lt (f : Nat → Int) : ∀ n, (∀ i, i < n → 0 ≤ f i ∧ f i ≤ 255) → hnum f n < 2 ^ (8 * n)
  | 0, _ => by simp [hnum]
  | n + 1, h => by
    have ih := hnum_lt f n (fun i hi => h i (by omega))
    obtain ⟨h0, h1⟩ := h n (by omega)
    have hf : (f n).toNat ≤ 255 := by omega
    have := Nat.mul_le_mul_left (2 ^ (8 * n)) hf
    rw [show 2 ^ (8 * (n + 1)) = 2 ^ (8 * n) * 2 ^ 8 from Nat.pow_add 2 (8 * n) 8]
    unfold hnum
    omega
theorem hnum_byte (f : Nat → Int) : ∀ n, (∀ i, i < n → 0 ≤ f i ∧ f i ≤ 255) → ∀ i, i < n → bn (hnum f n) i = (f i).toNat
  | 0, _, _, hi => by omega
  | n + 1, h, i, hi => by
    have hlt := hnum_lt f n (fun i hi => h i (by omega))
    obtain ⟨h0, h1⟩ := h n (by omega)
    unfold hnum
    by_cases hin : i < n
    · rw [← hnum_byte f n (fun i hi => h i (by omega)) i hin]
      unfold bn
      rw [show 2 ^ (8 * n) * (f n).toNat = 2 ^ (8 * i) * (2 ^ (8 * (n - i)) * (f n).toNat) from by rw [← Nat.mul_assoc, ← Nat.pow_add]; congr 2; omega]
      rw [Nat.add_mul_div_left _ _ (Nat.two_pow_pos _)]
      rw [show 2 ^ (8 * (n - i)) * (f n).toNat = 2 ^ 8 * (2 ^ (8 * (n - i) - 8) * (f n).toNat) from by rw [← Nat.mul_assoc, ← Nat.pow_add]; congr 2; omega]
      rw [Nat.add_mul_mod_self_left]
    · obtain rfl : i = n := by omega
      unfold bn
      rw [Nat.add_mul_div_left _ _ (Nat.two_pow_pos _), Nat.div_eq_of_lt hlt, Nat.zero_add]
      omega
theorem hls_of (f : Nat → Int) (h : ∀ i, i < 32 → 0 ≤ f i ∧ f i ≤ 255) : ((List.range 32).map fun i => Value.int .u8 (f i)) = hls (hnum f 32) := by
  unfold hls
  apply List.map_congr_left
  intro i hi
  rw [byt_eq, hnum_byte f 32 h i (List.mem_range.1 hi)]
  have := h i (List.mem_range.1 hi)
  congr 1; omega
set_option maxRecDepth 100000 in
theorem open_hash {H : Type} {enc : TypeId × Value → H} {w : World} {base b0 : Nat} {spare : Nat → Bool} {held : Bool} {r : Reach} {v : Value} {d : DataW H} {p : List MemPlace}
    (hv : Value.okWide Tryd.prog w r b0 94 v) (h : DataW.Trod enc Tryd.prog w base spare held 94 v d p) : ∃ n, n < W256 ∧ v = .agg (hcs n) := by
  obtain ⟨f, rfl, hw⟩ := open_arr (n := 32) (k := .u8) Tryd.underlying94 Tryd.underlying5 (by kernel_rfl) (by kernel_rfl) hv h
  have b : ∀ i, i < 32 → 0 ≤ f i ∧ f i ≤ 255 := fun i hi => by first | exact bounds_u8 (hw i hi) | (have := hw i hi; simp [Lit.wf, IntKind.min, IntKind.max] at this; omega)
  refine ⟨hnum f 32, hnum_lt f 32 b, ?_⟩
  unfold hcs
  rw [← hls_of f b]
end Go.Proofs.YtbjbjgfjaopibaaDoor
end

section
/- Small things that many walks want. -/
namespace Go.Proofs.YtbjbjgfjaopibaaDoor
open Go Go.RowKit
set_option linter.unusedSimpArgs false
set_option linter.unusedVariables false
set_option maxRecDepth 100000

theorem two_blocks (w : World) (c1 c2 : Array Value) (t1 t2 : TypeId) : Blk ((w.alloc (.cells c1 t1)).alloc (.cells c2 t2)) w.heap.size c1 t1 ∧ Blk ((w.alloc (.cells c1 t1)).alloc (.cells c2 t2)) (w.heap.size + 1) c2 t2 ∧ Below w.heap.size w ((w.alloc (.cells c1 t1)).alloc (.cells c2 t2)) := by
  have b1 := Blk.new w c1 t1
  have k := (Below.refl (w.alloc (.cells c1 t1)).heap.size (w.alloc (.cells c1 t1))).alloc (Nat.le_refl _) (.cells c2 t2)
  have hs : (w.alloc (.cells c1 t1)).heap.size = w.heap.size + 1 := by simp
  refine ⟨b1.beyond k, ?_, ((Below.refl w.heap.size w).alloc (Nat.le_refl _) _).alloc (by rw [hs]; omega) _⟩
  have := Blk.new (w.alloc (.cells c1 t1)) c2 t2
  rw [hs] at this; exact this
theorem u8info' : (Tryd.prog.info? 5).map (fun i => (i.zero, i.size, i.bytes)) = some (some (.int .u8 0), 1, 1) := by kernel_rfl
end Go.Proofs.YtbjbjgfjaopibaaDoor
end

section
/- The filter of nothing (awake). -/
namespace Go.Proofs.YtbjbjgfjaopibaaDoor
open Go Go.RowKit
set_option linter.unusedSimpArgs false
set_option linter.unusedVariables false
set_option maxRecDepth 100000

theorem enc_small (n : Nat) (hn : n < 253) (w : World) : Calls Tryd.prog 52 #[.int .u64 (n : Int)] w fun e w' => e = .returned (.slice (some ⟨w.heap.size, 0, none⟩) 1 1) ∧ w' = w.alloc (.cells #[.int .u8 (n : Int)] 5) := by
  have h1 : (n : Int) < 253 := by omega
  go_enter Tryd.func52, Tryd.ntmps52
  go_wp2
  go_ret
  exact ⟨rfl, rfl⟩
end Go.Proofs.YtbjbjgfjaopibaaDoor
end

section
/- size.Encode, walked. -/
namespace Go.Proofs.YtbjbjgfjaopibaaDoor
open Go Go.RowKit
set_option linter.unusedSimpArgs false
set_option linter.unusedVariables false
set_option maxRecDepth 100000

/-- the nine bytes, j of the number's laid -/
def nineL (n j : Nat) : List Value := .int .u8 255 :: (u8s (leB n j) ++ List.replicate (8 - j) (.int .u8 0))
theorem nineL_len {n j : Nat} (h : j ≤ 8) : (nineL n j).length = 9 := by
  unfold nineL; rw [List.length_cons, List.length_append, u8s_length, leB_length, List.length_replicate]; omega
theorem nineL_set {n j : Nat} (h : j < 8) : (nineL n j).set (j + 1) (.int .u8 ((n / 2 ^ (8 * j) % 256 : Nat) : Int)) = nineL n (j + 1) := by
  have e : 8 - j = (8 - (j + 1)) + 1 := by omega
  unfold nineL
  rw [List.set_cons_succ, List.set_append, u8s_length, leB_length, if_neg (Nat.lt_irrefl j), Nat.sub_self, e, List.replicate_succ, List.set_cons_zero, ← leB_succ, u8s_append, List.append_assoc]
  rfl
theorem nineL_8 (n : Nat) : nineL n 8 = .int .u8 255 :: u8s (leB n 8) := by simp [nineL]
theorem leB_getD {n k i : Nat} (h : i < k) : (leB n k).getD i 0 = ((n / 2 ^ (8 * i) % 256 : Nat) : Int) := by simp [leB, List.getD, h]
theorem row_empty (w : World) (b : Nat) (h : Blk w b #[] 5) : Row w 5 (.slice (some ⟨b, 0, none⟩) 0 0) [] (some b) :=
  .inr ⟨b, 0, #[], rfl, rfl, h, Nat.le_refl _, Nat.le_refl _, (by decide), rfl⟩
/-- the bytes laid in a row of their own -/
theorem nine_row (n wid : Nat) (byt : Int) (g c : Nat) (w : World) (h8 : wid ≤ 8) (hb : Blk w g (.int .u8 byt :: u8s (leB n 8)).toArray 105) :
    ∃ p2 c2 w2 o2, (Builtin.append_ #[32, 32] 32 #[.slice (some ⟨w.heap.size, 0, none⟩) 0 0, .slice (some ⟨g, 0, none⟩) (wid + 1) c]).run Tryd.prog (w.alloc (.cells #[] 5)) = .ok (.slice p2 (wid + 1) c2) w2 ∧
      Row w2 5 (.slice p2 (wid + 1) c2) (byt :: leB n wid) o2 ∧ (∀ g, o2 = some g → w.heap.size ≤ g) ∧ Below w.heap.size w w2 := by
  obtain ⟨i0, hi, hz0, hz1, hz2⟩ := info_parts u8inf
  have ka := (Below.refl w.heap.size w).alloc (Nat.le_refl _) (.cells #[] 5)
  have hlen : (byt :: leB n wid).length = wid + 1 := by rw [List.length_cons, leB_length]
  obtain ⟨v2, w2, o2, run2, R2, ho2, k2⟩ := row_appendL (P := Tryd.prog) 32 32 i0 (.int .u8 0) Tryd.underlying32 hi hz0 hz1 hz2 rfl (row_empty (w.alloc (.cells #[] 5)) w.heap.size (Blk.new _ _ _)) (p := some ⟨g, 0, none⟩) (c := c) (ys := byt :: leB n wid) (Lib.BytesIn.of_cells fun i hi => by
    rw [hlen] at hi
    rw [Addr.add_lit, Nat.zero_add, (hb.beyond ka).cell]
    match i, hi with
    | 0, _ => rfl
    | j + 1, hj =>
      have e : (byt :: leB n wid).getD (j + 1) 0 = (leB n wid).getD j 0 := rfl
      rw [e, leB_getD (by omega)]
      simp [u8s, leB, show j < 8 from by omega]) (by rw [hlen]; simp; omega)
  have hst := own_step rfl ka (fun g hg => by cases hg; exact Nat.le_refl _) ho2 k2
  rw [hlen] at run2
  obtain ⟨p2, c2, rfl, _⟩ := R2.form
  rw [List.nil_append, hlen] at run2 R2
  exact ⟨p2, c2, w2, o2, run2, R2, hst⟩
set_option maxHeartbeats 1600000 in
theorem penc (n : Nat) (hn : n < 18446744073709551616) (w : World) : Calls Tryd.prog 52 #[.int .u64 (n : Int)] w fun e w' => ∃ p c o, e = .returned (.slice p (encS n).length c) ∧ Row w' 5 (.slice p (encS n).length c) (encS n) o ∧ (∀ g, o = some g → w.heap.size ≤ g) ∧ Below w.heap.size w w' := by
  by_cases h1 : n < 253
  · rw [encS_1 h1]
    refine (enc_small n h1 w).mono ?_
    rintro e w' ⟨rfl, rfl⟩
    exact ⟨_, _, some w.heap.size, rfl, .inr ⟨w.heap.size, 1, #[.int .u8 (n : Int)], rfl, rfl, Blk.new _ _ _, Nat.le_refl _, Nat.le_refl _, (by decide), rfl⟩, fun g hg => (by cases hg; exact Nat.le_refl _), (Below.refl _ _).alloc (Nat.le_refl _) _⟩
  · obtain ⟨i0, hi, hz0, hz1, hz2⟩ := info_parts u8inf
    have d1 : decide ((n : Int) < 253) = false := decide_eq_false (by omega)
    go_enter Tryd.func52, Tryd.ntmps52
    go_upto_region 4 with fail
    have b0 : Blk (w.alloc (.cells #[.int .u8 255, .int .u8 0, .int .u8 0, .int .u8 0, .int .u8 0, .int .u8 0, .int .u8 0, .int .u8 0, .int .u8 0] 105)) w.heap.size (nineL n 0).toArray 105 := Blk.new w _ _
    have k0 := (Below.refl w.heap.size w).alloc (Nat.le_refl _) (.cells #[.int .u8 255, .int .u8 0, .int .u8 0, .int .u8 0, .int .u8 0, .int .u8 0, .int .u8 0, .int .u8 0, .int .u8 0] 105)
    have H0 := Lib.hid (And.intro b0 k0)
    clear b0 k0 hi hz0 hz1 hz2
    generalize w.alloc (.cells #[.int .u8 255, .int .u8 0, .int .u8 0, .int .u8 0, .int .u8 0, .int .u8 0, .int .u8 0, .int .u8 0, .int .u8 0] 105) = W at *
    generalize hgw : w.heap.size = G at *
    go_wp2
    go_loopg [11] 8 (fun gh i wx => ∃ j : Nat, j ≤ 8 ∧ i = .int .i64 (j : Int) ∧ gh = 8 - j ∧ Hid (Blk wx G (nineL n j).toArray 105 ∧ Below G w wx))
    case atStart => exact ⟨0, Nat.zero_le _, rfl, rfl, H0.out⟩
    case round =>
      obtain ⟨j, hj, rfl, hg, HM⟩ := hrel
      have HG := Lib.hid hg
      clear hg
      by_cases hlt : j < 8
      · have a2 : IntKind.i64.wrap (8 * (j : Int)) = 8 * (j : Int) := by rw [IntKind.wrap_i64]; omega
        have dj : decide ((j : Int) < 8) = true := decide_eq_true (by omega)
        have c := HM.out.1.cell (j + 1)
        rw [List.getElem?_toArray, List.getElem?_eq_getElem (by rw [nineL_len hj]; omega)] at c
        have f := HM.out.1.free (j + 1)
        have hsz : (nineL n j).toArray.size = 9 := by rw [List.size_toArray, nineL_len hj]
        go_wp2
        go_roundg (8 - (j + 1))
        case measure => rw [HG.out]; omega
        case rel =>
          refine ⟨j + 1, hlt, rfl, rfl, ?_, HM.out.2.setCell (by rw [← hgw]; exact Nat.le_refl _) _⟩
          have e := HM.out.1.set (j + 1) (.int .u8 ((n / 2 ^ (8 * j) % 256 : Nat) : Int))
          rw [List.setIfInBounds_toArray, nineL_set hlt] at e
          rw [show ((n : Int) / 2 ^ (8 * j) % 256) = ((n / 2 ^ (8 * j) % 256 : Nat) : Int) from by simp]
          exact e
      · obtain rfl : j = 8 := by omega
        have b8 := HM.out.1
        rw [nineL_8] at b8
        have f8 := b8.free 0
        have c8 : wr.cell? ⟨G, 0, none⟩ = some (.int .u8 255) := by rw [b8.cell]; rfl
        have hGr : G ≤ wr.heap.size := by rw [← hgw]; exact HM.out.2.size
        by_cases h2 : n ≤ 65535
        · have d2 : decide ((n : Int) < 65536) = true := decide_eq_true (by omega)
          have b9 := b8.set 0 (.int .u8 253)
          rw [List.setIfInBounds_toArray] at b9
          have k9 := HM.out.2.setCell (p := ⟨G, 0, none⟩) (by rw [← hgw]; exact Nat.le_refl _) (.int .u8 253)
          have H9 := Lib.hid (And.intro b9 k9)
          have hGW : G ≤ (wr.setCell ⟨G, 0, none⟩ (.int .u8 253)).heap.size := by simp; exact hGr
          clear b8 b9 k9
          go_upto_region 11 with fail
          generalize wr.setCell ⟨G, 0, none⟩ (.int .u8 253) = W9 at *
          clear c8 f8
          obtain ⟨p2, c2, w2, o2, run2, R2, ho2, hb2⟩ := nine_row n 2 253 G 9 W9 (by decide) H9.out.1
          have HR2 := Lib.hid (And.intro R2 (And.intro (fun g hg => Nat.le_trans hGW (ho2 g hg)) (H9.out.2.trans (hb2.mono hGW))))
          clear R2 ho2 hb2
          change (Builtin.append_ #[32, 32] 32 #[.slice (some ⟨W9.heap.size, 0, none⟩) 0 0, .slice (some ⟨G, 0, none⟩) 3 9]).run Tryd.prog (W9.alloc (.cells #[] 5)) = .ok (.slice p2 3 c2) w2 at run2
          go_wp2_with (at_builtin; refine wpl_append rfl _ _ 32 rfl rfl rfl run2 ?_)
          go_ret
          obtain ⟨q1, q2, q3⟩ := HR2.out
          have hl : (253 :: leB n 2).length = 3 := by rw [List.length_cons, leB_length]
          rw [encS_3 h1 h2, hl]
          refine ⟨p2, c2, o2, rfl, q1, ?_, ?_⟩
          · rw [hgw]; exact q2
          · rw [hgw]; exact q3
        · have d2 : decide ((n : Int) < 65536) = false := decide_eq_false (by omega)
          by_cases h3 : n ≤ 4294967295
          · have d3 : decide ((n : Int) < 4294967296) = true := decide_eq_true (by omega)
            have b9 := b8.set 0 (.int .u8 254)
            rw [List.setIfInBounds_toArray] at b9
            have k9 := HM.out.2.setCell (p := ⟨G, 0, none⟩) (by rw [← hgw]; exact Nat.le_refl _) (.int .u8 254)
            have H9 := Lib.hid (And.intro b9 k9)
            have hGW : G ≤ (wr.setCell ⟨G, 0, none⟩ (.int .u8 254)).heap.size := by simp; exact hGr
            clear b8 b9 k9
            go_upto_region 14 with fail
            generalize wr.setCell ⟨G, 0, none⟩ (.int .u8 254) = W9 at *
            clear c8 f8
            obtain ⟨p2, c2, w2, o2, run2, R2, ho2, hb2⟩ := nine_row n 4 254 G 9 W9 (by decide) H9.out.1
            have HR2 := Lib.hid (And.intro R2 (And.intro (fun g hg => Nat.le_trans hGW (ho2 g hg)) (H9.out.2.trans (hb2.mono hGW))))
            clear R2 ho2 hb2
            change (Builtin.append_ #[32, 32] 32 #[.slice (some ⟨W9.heap.size, 0, none⟩) 0 0, .slice (some ⟨G, 0, none⟩) 5 9]).run Tryd.prog (W9.alloc (.cells #[] 5)) = .ok (.slice p2 5 c2) w2 at run2
            go_wp2_with (at_builtin; refine wpl_append rfl _ _ 32 rfl rfl rfl run2 ?_)
            go_ret
            obtain ⟨q1, q2, q3⟩ := HR2.out
            have hl : (254 :: leB n 4).length = 5 := by rw [List.length_cons, leB_length]
            rw [encS_5 h1 h2 h3, hl]
            refine ⟨p2, c2, o2, rfl, q1, ?_, ?_⟩
            · rw [hgw]; exact q2
            · rw [hgw]; exact q3
          · have d3 : decide ((n : Int) < 4294967296) = false := decide_eq_false (by omega)
            have H9 := Lib.hid (And.intro b8 HM.out.2)
            have hGW := hGr
            clear b8
            go_upto_region 15 with fail
            clear c8 f8
            obtain ⟨p2, c2, w2, o2, run2, R2, ho2, hb2⟩ := nine_row n 8 255 G 9 wr (by decide) H9.out.1
            have HR2 := Lib.hid (And.intro R2 (And.intro (fun g hg => Nat.le_trans hGW (ho2 g hg)) (H9.out.2.trans (hb2.mono hGW))))
            clear R2 ho2 hb2
            change (Builtin.append_ #[32, 32] 32 #[.slice (some ⟨wr.heap.size, 0, none⟩) 0 0, .slice (some ⟨G, 0, none⟩) 9 9]).run Tryd.prog (wr.alloc (.cells #[] 5)) = .ok (.slice p2 9 c2) w2 at run2
            go_wp2_with (at_builtin; refine wpl_append rfl _ _ 32 rfl rfl rfl run2 ?_)
            go_ret
            obtain ⟨q1, q2, q3⟩ := HR2.out
            have hl : (255 :: leB n 8).length = 9 := by rw [List.length_cons, leB_length]
            rw [encS_9 h1 h2 h3, hl]
            refine ⟨p2, c2, o2, rfl, q1, ?_, ?_⟩
            · rw [hgw]; exact q2
            · rw [hgw]; exact q3
end Go.Proofs.YtbjbjgfjaopibaaDoor
end

section
/- The document's Number. -/
namespace Go.Proofs.YtbjbjgfjaopibaaDoor
open Go Go.RowKit
set_option linter.unusedSimpArgs false
set_option linter.unusedVariables false
set_option maxRecDepth 100000

end Go.Proofs.YtbjbjgfjaopibaaDoor
end

section
/- Counts read: Decode, both sides. -/
namespace Go.Proofs.YtbjbjgfjaopibaaDoor
open Go Go.RowKit
set_option linter.unusedSimpArgs false
set_option linter.unusedVariables false
set_option maxRecDepth 100000

theorem pcut (bs : List Int) (q : Option Addr) (c : Nat) (w : World) (hy : Lib.BytesIn w q bs.length bs) (hr : ∀ y ∈ bs, 0 ≤ y ∧ y ≤ 255) (hc : bs.length ≤ c) (hcm : c ≤ 9223372036854775807) (hl47 : bs.length ≤ 140737488355328) :
    Calls Tryd.prog 91 #[.slice q bs.length c] w (CutPost bs w) := by
  cases bs with
  | nil => exact pcut_nil q c w
  | cons b r =>
    obtain ⟨pb, po, rfl, hcl⟩ := hy.at (by simp)
    rw [List.length_cons] at hcl hc hl47 ⊢
    by_cases h0 : decW b = 0
    · exact pcut0 b r pb po c w hcl (hr b (List.mem_cons_self ..)) hc hcm hl47 h0
    · by_cases h1 : r.length < decW b
      · exact pcut_short b r _ pb po c w hcl hc hcm hl47 rfl (by omega) h1
      · exact pcutW b r _ pb po c w hcl (fun y hy => hr y (List.mem_cons_of_mem _ hy)) hc hcm hl47 rfl (by omega) (by omega)
/-- what 'Decode' answers -/
def DecPost (bs : List Int) (w : World) (e : Ending) (w' : World) : Prop :=
  ∃ (x : Int) (v : Value), e = .returned (.tuple #[.int .u64 x, v, .int .i64 (decE bs)]) ∧ Below w.heap.size w w' ∧ (decE bs = 0 → x = (decN bs : Int) ∧ ∃ o, Row w' 5 v (decR bs) o ∧ ∀ g, o = some g → w.heap.size ≤ g) ∧ (decE bs ≠ 0 → x = 0 ∧ v = .slice none 0 0)
theorem pdecode (bs : List Int) (q : Option Addr) (c : Nat) (w : World) (hy : Lib.BytesIn w q bs.length bs) (hr : ∀ y ∈ bs, 0 ≤ y ∧ y ≤ 255) (hc : bs.length ≤ c) (hcm : c ≤ 9223372036854775807) (hl47 : bs.length ≤ 140737488355328) :
    Calls Tryd.prog 74 #[.slice q bs.length c] w (DecPost bs w) := by
  have PC := Lib.hid (pcut bs q c w hy hr hc hcm hl47)
  clear hy hr hc
  go_enter Tryd.func74, Tryd.ntmps74
  go_wp2_with fail
  refine PC.out.mono ?_
  rintro e w1 ⟨x, v, rfl, hb, h0, h1⟩
  by_cases hE : decE bs = 0
  · obtain ⟨hx, p, c2, rfl, hyr, hle, ⟨hcm2, hl2⟩, a, rfl⟩ := h0 hE
    have PQ := Lib.hid (Tryd.bytes_Clone_at a (decR bs).length c2 (decR bs) w1 rfl (by omega) (fun i hi => by
      obtain ⟨b, o2, e1, hcc⟩ := hyr.at (by omega)
      cases e1
      rw [Addr.add_lit]; exact hcc i hi))
    have HH := Lib.hid (And.intro hb (And.intro hE hx))
    clear hb h0 h1 hE hx hyr
    go_wp2_with fail
    refine PQ.out.mono ?_
    rintro e w2 ⟨v', rfl, hown, hne, hbel⟩
    obtain ⟨o', r1, r2, r3⟩ := Row.of_owns hown
    have HF := Lib.hid (And.intro r1 (And.intro r2 hbel))
    clear r1 r2 r3 hown hne hbel
    go_wp2
    exact bodyPost_ret (results_tmp3 Tryd.results74 _ _ _) rfl ⟨x, v', rfl, HH.out.1.trans (HF.out.2.2.mono HH.out.1.size), fun _ => ⟨HH.out.2.2, o', HF.out.1, fun g hg => Nat.le_trans HH.out.1.size (HF.out.2.1 g hg).1⟩, fun hn => absurd HH.out.2.1 hn⟩
  · obtain ⟨rfl, rfl⟩ := h1 hE
    have PQ := Lib.hid (Tryd.bytes_Clone_nil 0 0 w1)
    have HH := Lib.hid (And.intro hb hE)
    clear hb h0 h1 hE
    go_wp2_with fail
    refine PQ.out.mono ?_
    rintro e w2 ⟨rfl, rfl⟩
    go_wp2
    exact bodyPost_ret (results_tmp3 Tryd.results74 _ _ _) rfl ⟨0, _, rfl, HH.out.1, fun h => absurd h HH.out.2, fun _ => ⟨rfl, rfl⟩⟩
end Go.Proofs.YtbjbjgfjaopibaaDoor
end

section
/- Texts: size.Text, size.ReadText. -/
namespace Go.Proofs.YtbjbjgfjaopibaaDoor
open Go Go.RowKit
set_option linter.unusedSimpArgs false
set_option linter.unusedVariables false
set_option maxRecDepth 100000

set_option maxHeartbeats 1600000 in
theorem ptext (xs : List Int) (q : Option Addr) (c : Nat) (w : World) (hy : Lib.BytesIn w q xs.length xs) (hl : xs.length ≤ 140737488351232) :
    Calls Tryd.prog 69 #[.slice q xs.length c] w fun e w' => ∃ p c' o, e = .returned (.slice p (txtB xs).length c') ∧ Row w' 5 (.slice p (txtB xs).length c') (txtB xs) o ∧ (∀ g, o = some g → w.heap.size ≤ g) ∧ Below w.heap.size w w' := by
  obtain ⟨i0, hi, hz0, hz1, hz2⟩ := info_parts u8inf
  have HI := Lib.hid (And.intro hi (And.intro hz0 (And.intro hz1 (And.intro hz2 hy))))
  clear hi hz0 hz1 hz2 hy
  have PE := Lib.hid (penc xs.length (by omega) w)
  have hn9 := (encS_ne xs.length).2
  obtain ⟨n, hn⟩ : ∃ n, n = xs.length := ⟨_, rfl⟩
  rw [← hn] at PE hn9 hl ⊢
  have HN := Lib.hid hn
  clear hn
  go_enter Tryd.func69, Tryd.ntmps69
  go_wp2_with fail
  refine PE.out.mono ?_
  rintro e w1 ⟨p1, c1, o1, rfl, R1, ho1, hb1⟩
  have kb := Keep.of_below (X := fun _ => False) hb1
  have hy1 := bytes_keep HI.out.2.2.2.2 kb (fun _ _ _ h => h)
  obtain ⟨v2, w2, o2, run2, R2, ho2, k2⟩ := row_appendL (P := Tryd.prog) 32 32 i0 (.int .u8 0) Tryd.underlying32 HI.out.1 HI.out.2.1 HI.out.2.2.1 HI.out.2.2.2.1 rfl R1 (p := q) (c := c) (ys := xs) hy1 (by rw [← HN.out]; omega)
  have hst := own_step rfl hb1 ho1 ho2 k2
  have e2 : encS n ++ xs = txtB xs := by unfold txtB; rw [← HN.out]
  rw [e2] at R2
  rw [← HN.out] at run2
  have HF := Lib.hid (And.intro R2 hst)
  obtain ⟨p2, c2, rfl, _⟩ := R2.form
  clear R1 ho1 hb1 kb hy1 R2 ho2 k2 hst e2
  go_wp2_with (at_builtin; refine wpl_append rfl _ _ 32 rfl rfl rfl run2 ?_)
  go_ret
  exact ⟨p2, c2, o2, rfl, HF.out.1, HF.out.2.1, HF.out.2.2⟩
/-- what 'ReadText' answers -/
def TxtPost (bs : List Int) (most : Nat) (w : World) (e : Ending) (w' : World) : Prop :=
  ∃ v1 v2 : Value, e = .returned (.tuple #[v1, v2, .int .i64 (rtE bs most)]) ∧ Below w.heap.size w w' ∧
    (rtE bs most = 0 → ∃ o1 o2, Row w' 5 v1 (rtX bs) o1 ∧ Row w' 5 v2 (rtR bs) o2 ∧ (∀ g, o1 = some g → w.heap.size ≤ g) ∧ (∀ g, o2 = some g → w.heap.size ≤ g) ∧ (∀ g, o1 = some g → o2 ≠ some g)) ∧
    (rtE bs most ≠ 0 → v1 = .slice none 0 0 ∧ v2 = .slice none 0 0)
theorem TxtPost.err {bs : List Int} {most : Nat} {w w' : World} {E : Int} (h : rtE bs most = E) (hE : E ≠ 0) (hb : Below w.heap.size w w') : TxtPost bs most w (.returned (.tuple #[.slice none 0 0, .slice none 0 0, .int .i64 E])) w' :=
  ⟨_, _, by rw [h], hb, fun h0 => absurd (h.symm.trans h0) hE, fun _ => ⟨rfl, rfl⟩⟩
theorem TxtPost.okA {bs : List Int} {most : Nat} {w v1 v2 : World} {x y : Value} {oa ob : Option Nat} (h : rtE bs most = 0) (hb1 : Below w.heap.size w v1) (Ra : Row v1 5 x (rtX bs) oa) (ha : ∀ g, oa = some g → w.heap.size ≤ g) (hb2 : Below v1.heap.size v1 v2) (Rb : Row v2 5 y (rtR bs) ob) (hob : ∀ g, ob = some g → v1.heap.size ≤ g) :
    TxtPost bs most w (.returned (.tuple #[x, y, .int .i64 0])) v2 :=
  ⟨x, y, by rw [h], hb1.trans (hb2.mono hb1.size), fun _ => ⟨oa, ob, Ra.keep (X := fun _ => False) (Keep.of_below hb2) (fun _ _ h => h), Rb, ha, fun g hg => Nat.le_trans hb1.size (hob g hg), fun g h1 h2 => by have := Ra.lt g h1; have := hob g h2; omega⟩, fun h0 => absurd h h0⟩
theorem TxtPost.okB {bs : List Int} {most : Nat} {w v1 v2 : World} {x y : Value} {oa ob : Option Nat} (h : rtE bs most = 0) (hb1 : Below w.heap.size w v1) (Rb : Row v1 5 y (rtR bs) ob) (hob : ∀ g, ob = some g → w.heap.size ≤ g) (hb2 : Below v1.heap.size v1 v2) (Ra : Row v2 5 x (rtX bs) oa) (ha : ∀ g, oa = some g → v1.heap.size ≤ g) :
    TxtPost bs most w (.returned (.tuple #[x, y, .int .i64 0])) v2 :=
  ⟨x, y, by rw [h], hb1.trans (hb2.mono hb1.size), fun _ => ⟨oa, ob, Ra, Rb.keep (X := fun _ => False) (Keep.of_below hb2) (fun _ _ h => h), fun g hg => Nat.le_trans hb1.size (ha g hg), hob, fun g h1 h2 => by have := Rb.lt g h2; have := ha g h1; omega⟩, fun h0 => absurd h h0⟩
/-- a part of bytes, cloned, whatever has been made meanwhile -/
theorem clone_part {W : World} {p : Option Addr} {n c : Nat} {xs : List Int} (hn : xs.length = n) (hy : Lib.BytesIn W p n xs) (hl : n ≤ 140737488355328) (hc : n ≤ c) (hz : p = none → c = 0) (w : World) (hb : Below W.heap.size W w) :
    Calls Tryd.prog 28 #[.slice p n c] w fun e w' => ∃ q c' o, e = .returned (.slice q n c') ∧ Row w' 5 (.slice q n c') xs o ∧ (∀ g, o = some g → w.heap.size ≤ g) ∧ Below w.heap.size w w' := by
  subst hn
  have hy' := bytes_keep hy (Keep.of_below (X := fun _ => False) hb) (fun _ _ _ h => h)
  cases p with
  | none =>
    obtain rfl := hz rfl
    have h0 : xs.length = 0 := by omega
    obtain rfl := List.eq_nil_of_length_eq_zero h0
    exact (Tryd.bytes_Clone_nil 0 0 w).mono fun e w' ⟨h1, h2⟩ => by subst h1; subst h2; exact ⟨none, 0, none, rfl, Row.nil _ _, fun g hg => (by cases hg), Below.refl _ _⟩
  | some a =>
    refine (Tryd.bytes_Clone_at a xs.length c xs w rfl hl (fun i hi => by
      obtain ⟨b, o2, e1, hcc⟩ := hy'.at (by omega)
      cases e1
      rw [Addr.add_lit]; exact hcc i hi)).mono ?_
    rintro e w2 ⟨v', rfl, hown, hne, hbel⟩
    obtain ⟨o', r1, r2, r3⟩ := Row.of_owns hown
    obtain ⟨q, c', rfl, _⟩ := r1.form
    exact ⟨q, c', o', rfl, r1, fun g hg => (r2 g hg).1, hbel⟩
set_option maxHeartbeats 3200000 in
theorem preadtext (bs : List Int) (M : Nat) (q : Option Addr) (c : Nat) (w : World) (hy : Lib.BytesIn w q bs.length bs) (hr : ∀ y ∈ bs, 0 ≤ y ∧ y ≤ 255) (hc : bs.length ≤ c) (hcm : c ≤ 9223372036854775807) (hl47 : bs.length ≤ 140737488355328) (hM : M ≤ 1000000) :
    Calls Tryd.prog 75 #[.slice q bs.length c, .int .i64 (M : Int)] w (TxtPost bs M w) := by
  have PC := Lib.hid (pcut bs q c w hy hr hc hcm hl47)
  have hN64 : decE bs = 0 → decN bs < 18446744073709551616 := fun h => (enc_dec hr h).2
  have HT := Lib.hid (show rtE bs M = if decE bs = 0 then (if M < decN bs then 4 else if (decR bs).length < decN bs then 50 else 0) else decE bs from rfl)
  clear hy hr hc
  have m0 : decide ((M : Int) < 0) = false := decide_eq_false (by omega)
  have m1 : (0 : Int) ≤ (M : Int) := by omega
  go_enter Tryd.func75, Tryd.ntmps75
  go_wp2_with fail
  refine PC.out.mono ?_
  rintro e w1 ⟨x, v, rfl, hb, h0, h1⟩
  by_cases hE : decE bs = 0
  · obtain ⟨hx, p, c2, rfl, hyr, hle, ⟨hcm2, hl2⟩, a, rfl⟩ := h0 hE
    have hN := hN64 hE
    rw [if_pos hE] at HT
    have HX := Lib.hid (show rtX bs = (decR bs).take (decN bs) from rfl)
    have HRR := Lib.hid (show rtR bs = (decR bs).drop (decN bs) from rfl)
    rw [hE]
    subst hx
    generalize decR bs = r at *
    generalize decN bs = n at *
    obtain ⟨m, hm⟩ : ∃ m, m = r.length := ⟨_, rfl⟩
    rw [← hm] at hyr hle hl2 HT ⊢
    have HH := Lib.hid (And.intro hb (And.intro hm hyr))
    clear hb h0 h1 hE hN64 hm hyr
    by_cases hb1 : M < n
    · rw [if_pos hb1] at HT
      go_wp2
      exact bodyPost_ret (results_tmp3 Tryd.results75 _ _ _) rfl (TxtPost.err HT.out (by decide) HH.out.1)
    · rw [if_neg hb1] at HT
      by_cases hb2 : m < n
      · rw [if_pos hb2] at HT
        have k2 : (m : Int) < (n : Int) := by omega
        go_wp2
        exact bodyPost_ret (results_tmp3 Tryd.results75 _ _ _) rfl (TxtPost.err HT.out (by decide) HH.out.1)
      · rw [if_neg hb2] at HT
        have hnm : n ≤ m := by omega
        have P1 : ∀ w', Below w1.heap.size w1 w' → Calls Tryd.prog 28 #[.slice (some a) n n] w' fun e w'' => ∃ q c' o, e = .returned (.slice q n c') ∧ Row w'' 5 (.slice q n c') (r.take n) o ∧ (∀ g, o = some g → w'.heap.size ≤ g) ∧ Below w'.heap.size w' w'' := fun w' hb' =>
          clone_part (W := w1) (by rw [List.length_take]; have := HH.out.2.1; omega) (fun h0' => by
            obtain ⟨b, o2, e1, hcc⟩ := HH.out.2.2.at (by omega)
            exact ⟨b, o2, e1, fun i hi => by rw [hcc i (by omega)]; simp [List.getD_eq_getElem?_getD, List.getElem?_take, hi]⟩) (by omega) (Nat.le_refl _) (fun h => by cases h) w' hb'
        have P2 : ∀ p2, (n < m → p2 = some (a.add n)) → (p2 = none → c2 - n = 0) → ∀ w', Below w1.heap.size w1 w' → Calls Tryd.prog 28 #[.slice p2 (m - n) (c2 - n)] w' fun e w'' => ∃ q c' o, e = .returned (.slice q (m - n) c') ∧ Row w'' 5 (.slice q (m - n) c') (r.drop n) o ∧ (∀ g, o = some g → w'.heap.size ≤ g) ∧ Below w'.heap.size w' w'' := fun p2 hp hz w' hb' =>
          clone_part (W := w1) (by rw [List.length_drop]; have := HH.out.2.1; omega) (fun h0' => by
            obtain ⟨b, o2, e1, hcc⟩ := HH.out.2.2.at (by omega)
            cases e1
            refine ⟨b, o2 + n, by rw [hp (by omega), Addr.add_lit], fun i hi => ?_⟩
            rw [Nat.add_assoc, hcc (n + i) (by omega)]
            simp [List.getD_eq_getElem?_getD, List.getElem?_drop]) (by omega) (by omega) hz w' hb'
        have P1 := Lib.hid P1
        have P2 := Lib.hid P2
        have n0 : (0 : Int) ≤ (n : Int) := by omega
        have n1 : (n : Int) ≤ (c2 : Int) := by omega
        have n2 : (n : Int) ≤ (m : Int) := by omega
        rw [← HX.out] at P1
        rw [← HRR.out] at P2
        clear HX HRR
        by_cases hcn : c2 = n
        · obtain rfl : n = m := by omega
          have P2 := Lib.hid (P2.out (some a) (fun h => absurd h (Nat.lt_irrefl _)) (fun h => by cases h))
          subst hcn
          rw [Nat.sub_self] at P2
          go_upto_region 9 with fail
          refine wp_region_held_drew (S := fun w' => Below w1.heap.size w1 w') (by kernel_rfl) ((Below.refl _ _).drew) (fun hS => ?_)
          refine wpAnyH_take (i := 0) (oi := ⟨_, _, _, _, _, _⟩) (v := ?_) rfl (by kernel_rfl) (by kernel_rfl) (by kernel_rfl) (fun _ _ _ h => h) (Or.inl ⟨by rfl, ?_⟩) hS ?_
          rotate_left
          · intro w0 hs; clear hs; go_simp; try (with_reducible rfl)
          try simp only [Act.put, List.setIfInBounds_toArray, List.set_cons_zero, List.set_cons_succ]
          refine wpAnyH_take (i := 1) (oi := ⟨_, _, _, _, _, _⟩) (v := ?_) rfl (by kernel_rfl) (by kernel_rfl) (by kernel_rfl) (fun _ _ _ h => h) (Or.inl ⟨by rfl, ?_⟩) hS ?_
          rotate_left
          · intro w0 hs; clear hs; go_simp; try (with_reducible rfl)
          try simp only [Act.put, List.setIfInBounds_toArray, List.set_cons_zero, List.set_cons_succ]
          refine wpAnyH_take (i := 2) (oi := ⟨_, _, _, _, _, _⟩) (v := ?_) rfl (by kernel_rfl) (by kernel_rfl) (by kernel_rfl) (fun _ _ _ h => h) (Or.inl ⟨by rfl, ?_⟩) hS ?_
          rotate_left
          · intro w0 hs; clear hs; go_simp; try (with_reducible rfl)
          try simp only [Act.put, List.setIfInBounds_toArray, List.set_cons_zero, List.set_cons_succ]
          refine wpAnyH_take (i := 3) (oi := ⟨_, _, _, _, _, _⟩) (v := ?_) rfl (by kernel_rfl) (by kernel_rfl) (by kernel_rfl) (fun _ _ _ h => h) (Or.inl ⟨by rfl, ?_⟩) hS ?_
          rotate_left
          · intro w0 hs; clear hs; go_simp; try (with_reducible rfl)
          try simp only [Act.put, List.setIfInBounds_toArray, List.set_cons_zero, List.set_cons_succ]
          refine wpAnyH_take (i := 5) (oi := ⟨_, _, _, _, _, _⟩) (v := ?_) rfl (by kernel_rfl) (by kernel_rfl) (by kernel_rfl) (fun _ _ _ h => h) (Or.inl ⟨by rfl, ?_⟩) hS ?_
          rotate_left
          · intro w0 hs; clear hs; go_simp; try (with_reducible rfl)
          try simp only [Act.put, List.setIfInBounds_toArray, List.set_cons_zero, List.set_cons_succ]
          refine wpAnyH_take (i := 6) (oi := ⟨_, _, _, _, _, _⟩) (v := ?_) rfl (by kernel_rfl) (by kernel_rfl) (by kernel_rfl) (fun _ _ _ h => h) (Or.inl ⟨by rfl, ?_⟩) hS ?_
          rotate_left
          · intro w0 hs; clear hs; go_simp; try (with_reducible rfl)
          try simp only [Act.put, List.setIfInBounds_toArray, List.set_cons_zero, List.set_cons_succ]
          refine wpAnyH_take (i := 7) (oi := ⟨_, _, _, _, _, _⟩) (v := ?_) rfl (by kernel_rfl) (by kernel_rfl) (by kernel_rfl) (fun _ _ _ h => h) (Or.inl ⟨by rfl, ?_⟩) hS ?_
          rotate_left
          · intro w0 hs; clear hs; go_simp; try (with_reducible rfl)
          try simp only [Act.put, List.setIfInBounds_toArray, List.set_cons_zero, List.set_cons_succ]
          refine wpAnyH_ready (rs := [4]) (by kernel_rfl) (by simp) ?_
          refine AllReadyH.cons (o := ⟨_, _, _, _, _, _⟩) rfl (fun K hK => ?_) AllReadyH.nil
          rw [if_pos (by rfl)]
          go_step
          refine (P1.out _ hS).mono ?_
          rintro e v1 ⟨qa, ca, oa, rfl, Ra, hoa, hb1⟩
          simp only []
          refine hK.out _ _ (hS.trans (hb1.mono hS.size)) (fun hS' => ?_)
          clear hS hK
          have hS := hS'; clear hS'
          try simp only [Act.put, List.setIfInBounds_toArray, List.set_cons_zero, List.set_cons_succ]
          refine wpAnyH_ready (rs := [8]) (by kernel_rfl) (by simp) ?_
          refine AllReadyH.cons (o := ⟨_, _, _, _, _, _⟩) rfl (fun K hK => ?_) AllReadyH.nil
          rw [if_pos (by rfl)]
          go_step
          refine (P2.out _ hS).mono ?_
          rintro e v2 ⟨qb, cb, ob, rfl, Rb, hob, hb2⟩
          simp only []
          refine hK.out _ _ (hS.trans (hb2.mono hS.size)) (fun hS' => ?_)
          clear hS hK
          have hS := hS'; clear hS'
          try simp only [Act.put, List.setIfInBounds_toArray, List.set_cons_zero, List.set_cons_succ]
          refine wpAnyH_take (i := 9) (oi := ⟨_, _, _, _, _, _⟩) (v := ?_) rfl (by kernel_rfl) (by kernel_rfl) (by kernel_rfl) (fun _ _ _ h => h) (Or.inl ⟨by rfl, ?_⟩) hS ?_
          rotate_left
          · intro w0 hs; clear hs; go_simp; try (with_reducible rfl)
          try simp only [Act.put, List.setIfInBounds_toArray, List.set_cons_zero, List.set_cons_succ]
          refine wpAnyH_take (i := 10) (oi := ⟨_, _, _, _, _, _⟩) (v := ?_) rfl (by kernel_rfl) (by kernel_rfl) (by kernel_rfl) (fun _ _ _ h => h) (Or.inl ⟨by rfl, ?_⟩) hS ?_
          rotate_left
          · intro w0 hs; clear hs; go_simp; try (with_reducible rfl)
          try simp only [Act.put, List.setIfInBounds_toArray, List.set_cons_zero, List.set_cons_succ]
          refine wpAnyH_take (i := 11) (oi := ⟨_, _, _, _, _, _⟩) (v := ?_) rfl (by kernel_rfl) (by kernel_rfl) (by kernel_rfl) (fun _ _ _ h => h) (Or.inl ⟨by rfl, ?_⟩) hS ?_
          rotate_left
          · intro w0 hs; clear hs; go_simp; try (with_reducible rfl)
          try simp only [Act.put, List.setIfInBounds_toArray, List.set_cons_zero, List.set_cons_succ]
          refine wpAnyH_done (by kernel_rfl) ?_ _
          go_wp2
          first | exact bodyPost_ret (results_tmp3 Tryd.results75 _ _ _) rfl (TxtPost.okA HT.out (HH.out.1.trans (((Below.refl w1.heap.size w1).drew.trans hb1).mono HH.out.1.size)) Ra (fun g hg => Nat.le_trans HH.out.1.size (hoa g hg)) hb2 Rb hob) | exact bodyPost_ret (results_tmp3 Tryd.results75 _ _ _) rfl (TxtPost.okB HT.out (HH.out.1.trans (((Below.refl w1.heap.size w1).drew.trans hb1).mono HH.out.1.size)) Rb (fun g hg => Nat.le_trans HH.out.1.size (hob g hg)) hb2 Ra hoa)
        · go_upto_region 9 with fail
          refine wp_region_held_drew (S := fun w' => Below w1.heap.size w1 w') (by kernel_rfl) ((Below.refl _ _).drew) (fun hS => ?_)
          refine wpAnyH_take (i := 0) (oi := ⟨_, _, _, _, _, _⟩) (v := ?_) rfl (by kernel_rfl) (by kernel_rfl) (by kernel_rfl) (fun _ _ _ h => h) (Or.inl ⟨by rfl, ?_⟩) hS ?_
          rotate_left
          · intro w0 hs; clear hs; go_simp; try (with_reducible rfl)
          try simp only [Act.put, List.setIfInBounds_toArray, List.set_cons_zero, List.set_cons_succ]
          refine wpAnyH_take (i := 1) (oi := ⟨_, _, _, _, _, _⟩) (v := ?_) rfl (by kernel_rfl) (by kernel_rfl) (by kernel_rfl) (fun _ _ _ h => h) (Or.inl ⟨by rfl, ?_⟩) hS ?_
          rotate_left
          · intro w0 hs; clear hs; go_simp; try (with_reducible rfl)
          try simp only [Act.put, List.setIfInBounds_toArray, List.set_cons_zero, List.set_cons_succ]
          refine wpAnyH_take (i := 2) (oi := ⟨_, _, _, _, _, _⟩) (v := ?_) rfl (by kernel_rfl) (by kernel_rfl) (by kernel_rfl) (fun _ _ _ h => h) (Or.inl ⟨by rfl, ?_⟩) hS ?_
          rotate_left
          · intro w0 hs; clear hs; go_simp; try (with_reducible rfl)
          try simp only [Act.put, List.setIfInBounds_toArray, List.set_cons_zero, List.set_cons_succ]
          refine wpAnyH_take (i := 3) (oi := ⟨_, _, _, _, _, _⟩) (v := ?_) rfl (by kernel_rfl) (by kernel_rfl) (by kernel_rfl) (fun _ _ _ h => h) (Or.inl ⟨by rfl, ?_⟩) hS ?_
          rotate_left
          · intro w0 hs; clear hs; go_simp; try (with_reducible rfl)
          try simp only [Act.put, List.setIfInBounds_toArray, List.set_cons_zero, List.set_cons_succ]
          refine wpAnyH_take (i := 5) (oi := ⟨_, _, _, _, _, _⟩) (v := ?_) rfl (by kernel_rfl) (by kernel_rfl) (by kernel_rfl) (fun _ _ _ h => h) (Or.inl ⟨by rfl, ?_⟩) hS ?_
          rotate_left
          · intro w0 hs; clear hs; go_simp; try (with_reducible rfl)
          try simp only [Act.put, List.setIfInBounds_toArray, List.set_cons_zero, List.set_cons_succ]
          refine wpAnyH_take (i := 6) (oi := ⟨_, _, _, _, _, _⟩) (v := ?_) rfl (by kernel_rfl) (by kernel_rfl) (by kernel_rfl) (fun _ _ _ h => h) (Or.inl ⟨by rfl, ?_⟩) hS ?_
          rotate_left
          · intro w0 hs; clear hs; go_simp; try (with_reducible rfl)
          try simp only [Act.put, List.setIfInBounds_toArray, List.set_cons_zero, List.set_cons_succ]
          refine wpAnyH_take (i := 7) (oi := ⟨_, _, _, _, _, _⟩) (v := ?_) rfl (by kernel_rfl) (by kernel_rfl) (by kernel_rfl) (fun _ _ _ h => h) (Or.inl ⟨by rfl, ?_⟩) hS ?_
          rotate_left
          · intro w0 hs; clear hs; go_simp; try (with_reducible rfl)
          try simp only [Act.put, List.setIfInBounds_toArray, List.set_cons_zero, List.set_cons_succ]
          refine wpAnyH_ready (rs := [4]) (by kernel_rfl) (by simp) ?_
          refine AllReadyH.cons (o := ⟨_, _, _, _, _, _⟩) rfl (fun K hK => ?_) AllReadyH.nil
          rw [if_pos (by rfl)]
          go_step
          refine (P1.out _ hS).mono ?_
          rintro e v1 ⟨qa, ca, oa, rfl, Ra, hoa, hb1⟩
          simp only []
          refine hK.out _ _ (hS.trans (hb1.mono hS.size)) (fun hS' => ?_)
          clear hS hK
          have hS := hS'; clear hS'
          try simp only [Act.put, List.setIfInBounds_toArray, List.set_cons_zero, List.set_cons_succ]
          refine wpAnyH_ready (rs := [8]) (by kernel_rfl) (by simp) ?_
          refine AllReadyH.cons (o := ⟨_, _, _, _, _, _⟩) rfl (fun K hK => ?_) AllReadyH.nil
          rw [if_pos (by rfl)]
          go_step
          refine (P2.out _ (fun _ => rfl) (fun h => by cases h) _ hS).mono ?_
          rintro e v2 ⟨qb, cb, ob, rfl, Rb, hob, hb2⟩
          simp only []
          refine hK.out _ _ (hS.trans (hb2.mono hS.size)) (fun hS' => ?_)
          clear hS hK
          have hS := hS'; clear hS'
          try simp only [Act.put, List.setIfInBounds_toArray, List.set_cons_zero, List.set_cons_succ]
          refine wpAnyH_take (i := 9) (oi := ⟨_, _, _, _, _, _⟩) (v := ?_) rfl (by kernel_rfl) (by kernel_rfl) (by kernel_rfl) (fun _ _ _ h => h) (Or.inl ⟨by rfl, ?_⟩) hS ?_
          rotate_left
          · intro w0 hs; clear hs; go_simp; try (with_reducible rfl)
          try simp only [Act.put, List.setIfInBounds_toArray, List.set_cons_zero, List.set_cons_succ]
          refine wpAnyH_take (i := 10) (oi := ⟨_, _, _, _, _, _⟩) (v := ?_) rfl (by kernel_rfl) (by kernel_rfl) (by kernel_rfl) (fun _ _ _ h => h) (Or.inl ⟨by rfl, ?_⟩) hS ?_
          rotate_left
          · intro w0 hs; clear hs; go_simp; try (with_reducible rfl)
          try simp only [Act.put, List.setIfInBounds_toArray, List.set_cons_zero, List.set_cons_succ]
          refine wpAnyH_take (i := 11) (oi := ⟨_, _, _, _, _, _⟩) (v := ?_) rfl (by kernel_rfl) (by kernel_rfl) (by kernel_rfl) (fun _ _ _ h => h) (Or.inl ⟨by rfl, ?_⟩) hS ?_
          rotate_left
          · intro w0 hs; clear hs; go_simp; try (with_reducible rfl)
          try simp only [Act.put, List.setIfInBounds_toArray, List.set_cons_zero, List.set_cons_succ]
          refine wpAnyH_done (by kernel_rfl) ?_ _
          go_wp2
          first | exact bodyPost_ret (results_tmp3 Tryd.results75 _ _ _) rfl (TxtPost.okA HT.out (HH.out.1.trans (((Below.refl w1.heap.size w1).drew.trans hb1).mono HH.out.1.size)) Ra (fun g hg => Nat.le_trans HH.out.1.size (hoa g hg)) hb2 Rb hob) | exact bodyPost_ret (results_tmp3 Tryd.results75 _ _ _) rfl (TxtPost.okB HT.out (HH.out.1.trans (((Below.refl w1.heap.size w1).drew.trans hb1).mono HH.out.1.size)) Rb (fun g hg => Nat.le_trans HH.out.1.size (hob g hg)) hb2 Ra hoa)
  · obtain ⟨rfl, rfl⟩ := h1 hE
    rw [if_neg hE] at HT
    have hne : (decE bs != 0) = true := by simpa using hE
    generalize decE bs = E at *
    have HH := Lib.hid (And.intro hb hE)
    clear hb h0 h1 hE hN64
    go_wp2
    exact bodyPost_ret (results_tmp3 Tryd.results75 _ _ _) rfl (TxtPost.err HT.out HH.out.2 HH.out.1)
end Go.Proofs.YtbjbjgfjaopibaaDoor
end
