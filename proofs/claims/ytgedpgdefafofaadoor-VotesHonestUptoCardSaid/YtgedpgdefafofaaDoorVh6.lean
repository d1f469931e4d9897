import Derived.Test.YtgedpgdefafofaaDoorVh1
import Derived.Deep.MidRow
import Derived.Laws.Rows
import Derived.Test.YtgedpgdefafofaaDoorVh5
import Derived.Test.YtgedpgdefafofaaDoorVh4
import Derived.Test.YtgedpgdefafofaaDoorVh2
import Derived.WalkMore
import Derived.BigFrame
section
/- Hashes: arrays of 32 bytes, as numbers; whole arrays that the walk does not open. -/
namespace Go.Proofs.YtgedpgdefafofaaDoor
open Go.RowKit

/-- byte k of n -/
def byt (n k : Nat) : Int := ((n / 2 ^ (8 * k) % 2 ^ 8 : Nat) : Int)
/-- the cells of api.Hash that is n -/
def hls (n : Nat) : List Value := (List.range 32).map fun k => Value.int .u8 (byt n k)
def hcs (n : Nat) : Array Value := (hls n).toArray
abbrev hv (n : Nat) : Value := .agg (hcs n)
theorem hcs_size (n : Nat) : (hcs n).size = 32 := by simp [hcs, hls]
theorem hcs_get (n k : Nat) (h : k < 32) : (hcs n)[k]? = some (.int .u8 (byt n k)) := by simp [hcs, hls, h]
theorem hls_length (n : Nat) : (hls n).length = 32 := by simp [hls]
theorem byt_range (n k : Nat) : 0 ≤ byt n k ∧ byt n k < 256 := by
  unfold byt
  have : n / 2 ^ (8 * k) % 2 ^ 8 < 2 ^ 8 := Nat.mod_lt _ (by decide)
  omega
theorem hcs_one (n : Nat) : (hcs n).all (·.oneCell') = true := by
  unfold hcs hls; rw [Array.all_eq_true]; intro i h; simp [Value.oneCell']
def bn (n k : Nat) : Nat := n / 2 ^ (8 * k) % 2 ^ 8
theorem byt_eq (n k : Nat) : byt n k = (bn n k : Int) := rfl
theorem bn_lt (n k : Nat) : bn n k < 2 ^ 8 := Nat.mod_lt _ (by decide)
theorem bn_bit (n k i : Nat) : (bn n k).testBit i = (decide (i < 8) && n.testBit (8 * k + i)) := by
  unfold bn; rw [Nat.testBit_mod_two_pow, Nat.testBit_div_two_pow, Nat.add_comm]
theorem bn_ext {a b : Nat} (ha : a < 2 ^ 256) (hb : b < 2 ^ 256) (h : ∀ k, k < 32 → bn a k = bn b k) : a = b := by
  apply Nat.eq_of_testBit_eq; intro i
  by_cases hi : i < 256
  · have := congrArg (fun x => x.testBit (i % 8)) (h (i / 8) (by omega))
    simp only [bn_bit] at this
    rw [decide_eq_true (show i % 8 < 8 from Nat.mod_lt _ (by decide))] at this
    simpa [show 8 * (i / 8) + i % 8 = i from by omega] using this
  · rw [Nat.testBit_lt_two_pow (Nat.lt_of_lt_of_le ha (Nat.pow_le_pow_right (by decide) (by omega))), Nat.testBit_lt_two_pow (Nat.lt_of_lt_of_le hb (Nat.pow_le_pow_right (by decide) (by omega)))]
theorem byt_mod (x k j : Nat) : byt (x % 2 ^ (8 * k)) j = if j < k then byt x j else 0 := by
  rw [byt_eq, byt_eq]
  have : bn (x % 2 ^ (8 * k)) j = if j < k then bn x j else 0 := by
    apply Nat.eq_of_testBit_eq; intro i
    rw [bn_bit, Nat.testBit_mod_two_pow]
    by_cases h : j < k
    · rw [if_pos h, bn_bit]
      by_cases hi : i < 8
      · rw [decide_eq_true (show 8 * j + i < 8 * k from by omega), Bool.true_and]
      · simp [hi]
    · rw [if_neg h, Nat.zero_testBit]
      by_cases hi : i < 8
      · rw [decide_eq_false (show ¬ 8 * j + i < 8 * k from by omega)]; simp
      · simp [hi]
  rw [this]; split <;> rfl
theorem hcs_ext {a b : Nat} (h : ∀ k, k < 32 → byt a k = byt b k) : hcs a = hcs b := by
  unfold hcs hls; congr 1; apply List.map_congr_left; intro k hk; rw [h k (List.mem_range.1 hk)]
theorem hcs_step (x k : Nat) : (hcs (x % 2 ^ (8 * k))).setIfInBounds k (.int .u8 (byt x k)) = hcs (x % 2 ^ (8 * (k + 1))) := by
  apply Array.ext
  · simp [hcs_size]
  · intro i h1 h2
    rw [hcs_size] at h2
    rw [Array.getElem_setIfInBounds]
    have e : ∀ n (h' : i < (hcs n).size), (hcs n)[i] = .int .u8 (byt n i) := by
      intro n h'; have := hcs_get n i h2; rw [Array.getElem?_eq_getElem h'] at this; exact Option.some.inj this
    by_cases hik : k = i
    · subst hik; rw [if_pos rfl, e, byt_mod, if_pos (by omega)]
    · rw [if_neg hik, e, e, byt_mod, byt_mod]
      by_cases h3 : i < k
      · rw [if_pos h3, if_pos (by omega)]
      · rw [if_neg h3, if_neg (by omega)]
    simpa [hcs_size] using h2
theorem hcs_zero : hcs 0 = (Array.replicate 32 (Value.int .u8 0)) := by
  apply Array.ext <;> simp [hcs, hls, byt]
/-- a part of b bits put into a number below it -/
theorem or_part (m i c b : Nat) (hm : m < 2 ^ i) (hc : c < 2 ^ b) (hb : i % 64 + b ≤ 64) :
    bits .or .u64 (wd m (i / 64)) (IntKind.u64.wrap ((c : Int) * 2 ^ (i % 64))) = wd (m + 2 ^ i * c) (i / 64) := by
  have hlt : c * 2 ^ (i % 64) < 2 ^ 64 := by
    have h1 : c * 2 ^ (i % 64) < 2 ^ b * 2 ^ (i % 64) := Nat.mul_lt_mul_of_pos_right hc (Nat.two_pow_pos _)
    rw [← Nat.pow_add] at h1
    exact Nat.lt_of_lt_of_le h1 (Nat.pow_le_pow_right (by decide) (by omega))
  rw [show (c : Int) * 2 ^ (i % 64) = ((c * 2 ^ (i % 64) : Nat) : Int) from by simp, u64_small _ hlt, wd_eq, or_u64 _ _ (wn_lt _ _) hlt, wd_eq]
  congr 1
  rw [Nat.add_comm m, Nat.two_pow_add_eq_or_of_lt hm, wn_or, Nat.or_comm]
  congr 1
  apply Nat.eq_of_testBit_eq; intro j
  rw [wn_bit, Nat.mul_comm c, Nat.testBit_two_pow_mul, Nat.testBit_two_pow_mul]
  by_cases hj : j < 64
  · rw [decide_eq_true hj, Bool.true_and]
    by_cases h2 : i % 64 ≤ j
    · rw [decide_eq_true h2, decide_eq_true (show i ≤ 64 * (i / 64) + j by omega)]
      congr 1; congr 1; omega
    · rw [decide_eq_false h2, decide_eq_false (show ¬ i ≤ 64 * (i / 64) + j by omega)]; simp
  · rw [decide_eq_false hj, Bool.false_and]
    have : c.testBit (j - i % 64) = false := Nat.testBit_lt_two_pow (Nat.lt_of_lt_of_le hc (Nat.pow_le_pow_right (by decide) (by omega)))
    rw [this]; simp
theorem wd_part_far (m i c b k : Nat) (hm : m < 2 ^ i) (hc : c < 2 ^ b) (hb : i % 64 + b ≤ 64) (hk : k ≠ i / 64) : wd (m + 2 ^ i * c) k = wd m k := by
  rw [wd_eq, wd_eq]
  congr 1
  rw [Nat.add_comm m, Nat.two_pow_add_eq_or_of_lt hm, wn_or]
  have : wn (2 ^ i * c) k = 0 := by
    apply Nat.eq_of_testBit_eq; intro j
    rw [wn_bit, Nat.testBit_two_pow_mul, Nat.zero_testBit]
    by_cases hj : j < 64
    · by_cases h2 : i ≤ 64 * k + j
      · have : c.testBit (64 * k + j - i) = false := Nat.testBit_lt_two_pow (Nat.lt_of_lt_of_le hc (Nat.pow_le_pow_right (by decide) (by omega)))
        rw [this]; simp
      · rw [decide_eq_false h2]; simp
    · rw [decide_eq_false hj]; simp
  rw [this, Nat.zero_or]
theorem wcs_part (m i c b : Nat) (hi : i < 256) (hm : m < 2 ^ i) (hc : c < 2 ^ b) (hb : i % 64 + b ≤ 64) : (wcs m).setIfInBounds (i / 64) (.int .u64 (wd (m + 2 ^ i * c) (i / 64))) = wcs (m + 2 ^ i * c) := by
  have far := fun k => wd_part_far m i c b k hm hc hb
  rcases (by omega : i / 64 = 0 ∨ i / 64 = 1 ∨ i / 64 = 2 ∨ i / 64 = 3) with h | h | h | h <;> rw [h] at far ⊢
  · rw [wcs, wcs, far 1 (by decide), far 2 (by decide), far 3 (by decide)]; rfl
  · rw [wcs, wcs, far 0 (by decide), far 2 (by decide), far 3 (by decide)]; rfl
  · rw [wcs, wcs, far 0 (by decide), far 1 (by decide), far 3 (by decide)]; rfl
  · rw [wcs, wcs, far 0 (by decide), far 1 (by decide), far 2 (by decide)]; rfl
/-- byte k of n out of its word -/
theorem byt_wd (n k : Nat) : (wd n (k / 8) / 2 ^ (8 * (k % 8))) % 256 = byt n k := by
  have e : wd n (k / 8) / 2 ^ (8 * (k % 8)) = ((wn n (k / 8) / 2 ^ (8 * (k % 8)) : Nat) : Int) := by
    rw [wd_eq, Int.natCast_ediv, Int.natCast_pow]; rfl
  rw [e, byt_eq]
  have : wn n (k / 8) / 2 ^ (8 * (k % 8)) % 2 ^ 8 = bn n k := by
    apply Nat.eq_of_testBit_eq; intro i
    rw [Nat.testBit_mod_two_pow, Nat.testBit_div_two_pow, wn_bit, bn_bit]
    by_cases hi : i < 8
    · rw [decide_eq_true hi, decide_eq_true (show i + 8 * (k % 8) < 64 by omega), Bool.true_and, Bool.true_and, Bool.true_and]
      congr 1; omega
    · rw [decide_eq_false hi]; simp
  omega
theorem i64_small8 (n : Int) (h0 : 0 ≤ n) (h1 : n < 2 ^ 8) : IntKind.i64.wrap n = n := by rw [IntKind.wrap_i64]; omega
theorem and7 (k : Nat) (h : k < 32) : bits .and .i64 (k : Int) 7 = (k : Int) % 8 :=
  bits_mask .i64 8 (by decide) i64_small8 3 (by decide) (k : Int) (by omega) (by omega)
theorem byt_wd' (n k : Nat) : (wd n (k / 8) / 2 ^ (k % 8 * 8)) % 256 = byt n k := by rw [Nat.mul_comm]; exact byt_wd n k

theorem mod_byte (h k : Nat) : h % 2 ^ (8 * (k + 1)) = h % 2 ^ (8 * k) + 2 ^ (8 * k) * bn h k := by
  unfold bn
  rw [show 2 ^ (8 * (k + 1)) = 2 ^ (8 * k) * 2 ^ 8 from Nat.pow_add 2 (8 * k) 8, Nat.mod_mul]
theorem of_or (h k : Nat) : bits .or .u64 (wd (h % 2 ^ (8 * k)) (k / 8)) (IntKind.u64.wrap (byt h k * 2 ^ (8 * (k % 8)))) = wd (h % 2 ^ (8 * (k + 1))) (k / 8) := by
  have := or_part (h % 2 ^ (8 * k)) (8 * k) (bn h k) 8 (Nat.mod_lt _ (Nat.two_pow_pos _)) (bn_lt h k) (by omega)
  rw [← mod_byte, show 8 * k / 64 = k / 8 from by omega, show 8 * k % 64 = 8 * (k % 8) from by omega] at this
  exact this
theorem of_or' (h k : Nat) : bits .or .u64 (wd (h % 2 ^ (8 * k)) (k / 8)) (IntKind.u64.wrap (byt h k * 2 ^ (k % 8 * 8))) = wd (h % 2 ^ (8 * (k + 1))) (k / 8) := by
  rw [Nat.mul_comm (k % 8) 8]; exact of_or h k
theorem of_cells (h k : Nat) (hk : k < 32) : (wcs (h % 2 ^ (8 * k))).setIfInBounds (k / 8) (.int .u64 (wd (h % 2 ^ (8 * (k + 1))) (k / 8))) = wcs (h % 2 ^ (8 * (k + 1))) := by
  have := wcs_part (h % 2 ^ (8 * k)) (8 * k) (bn h k) 8 (by omega) (Nat.mod_lt _ (Nat.two_pow_pos _)) (bn_lt h k) (by omega)
  rw [← mod_byte, show 8 * k / 64 = k / 8 from by omega] at this
  exact this

/-- an element of an array by value -/
theorem run_index_arr {P : Program} (t e : TypeId) (n i : Nat) (cs : Array Value) (v : Value) (w : World) (h : P.underlying t = some (.array n e)) (ha : ∀ w, (isAgg e).run P w = .ok false w) (hs : ∀ w, (Go.sizeOf e).run P w = .ok 1 w)
    (hi : i < n) (hv : cs[i]? = some v) : (Instr.index t (.agg cs) (.int .i64 (i : Int))).run P w = .ok v w := by
  have h1 : 0 ≤ (i : Int) ∧ (i : Int) < n := by omega
  unfold Instr.index
  simp only [asIntOf, Sem.run_bind, Sem.run_pure, Result.andThen_ok, run_underlying h, if_pos h1, Go.part, ha, hs, Int.toNat_natCast, Nat.mul_one, hv, Bool.false_eq_true, if_false]
/-! ### whole arrays -/
theorem Blk.setCells {g : Nat} {t : TypeId} : ∀ (vs : List Value) (o : Nat) (w : World) (pre post : List Value), pre.length = o → post.length = vs.length → Blk w g (pre ++ post).toArray t → Blk (w.setCells g o vs) g (pre ++ vs).toArray t
  | [], _, _, _, post, _, h2, h => by
    have : post = [] := List.length_eq_zero_iff.1 h2
    subst this; exact h
  | v :: r, o, w, pre, post, h1, h2, h => by
    match post, h2, h with
    | p :: post, h2, h =>
      have e : (pre ++ p :: post).toArray.setIfInBounds o v = ((pre ++ [v]) ++ post).toArray := by
        subst h1; simp
      have h3 := h.set o v
      rw [e] at h3
      have := Blk.setCells r (o + 1) (w.setCell ⟨g, o, none⟩ v) (pre ++ [v]) post (by simp [h1]) (by simpa using h2) h3
      simpa [World.setCells] using this
theorem Blk.setAll {w : World} {g : Nat} {c : Array Value} {t : TypeId} (h : Blk w g c t) (vs : Array Value) (hs : c.size = vs.size) : Blk (w.setCells g 0 vs.toList) g vs t := by
  have := Blk.setCells (g := g) (t := t) vs.toList 0 w [] c.toList rfl (by simp [hs]) (by simpa using h)
  simpa using this
theorem heap_setCells {g k : Nat} (h : k ≠ g) : ∀ (vs : List Value) (o : Nat) (w : World), (w.setCells g o vs).heap[k]? = w.heap[k]?
  | [], _, _ => rfl
  | v :: r, o, w => (heap_setCells h r (o + 1) _).trans (Below.heap_setCell w ⟨g, o, none⟩ v k h)
theorem size_setCells {g : Nat} : ∀ (vs : List Value) (o : Nat) (w : World), (w.setCells g o vs).heap.size = w.heap.size
  | [], _, _ => rfl
  | _ :: r, o, _ => (size_setCells r (o + 1) _).trans (by simp [World.setCell])
theorem below_setCells {B g : Nat} {a : World} (hg : B ≤ g) : ∀ (vs : List Value) (o : Nat) (w : World), Below B a w → Below B a (w.setCells g o vs)
  | [], _, _, h => h
  | v :: r, o, _, h => below_setCells hg r (o + 1) _ (h.setCell (p := ⟨g, o, none⟩) hg v)
theorem Blk.there {w : World} {g : Nat} {c : Array Value} {t : TypeId} (h : Blk w g c t) : w.there g 0 c.size := fun j hj => by
  rw [h.cell, h.free]; simp; omega
/-- A WHOLE ARRAY IS READ out of a variable. -/
theorem wpl_load {P : Program} {ops : Array Oper} {rest : List Oper} {o : Oper} {a : Act} {w : World} {Q : Exit → Act → World → Prop} (hgd : o.guard = none) (ty : TypeId) (x : Operand) (ho : o.op = .load ty x)
    {g n : Nat} {e t : TypeId} {cs : Array Value} (hx : a.eval x = .pointer (some ⟨g, 0, none⟩)) (hg : Blk w g cs t)
    (hu : P.underlying ty = some (.array n e)) (hi : (P.info? ty).map (·.size) = some cs.size)
    (h : wpList P ops Q rest (a.put o.dst (.agg cs)) w) : wpList P ops Q (o :: rest) a w :=
  wpList_load_row hgd ty x ho g hx t cs (0, 0) (.array n e) hg hu rfl hi h
/-- A WHOLE ARRAY IS STORED into a variable. -/
theorem wpl_store {P : Program} {ops : Array Oper} {rest : List Oper} {o : Oper} {a : Act} {w : World} {Q : Exit → Act → World → Prop} (hgd : o.guard = none) (ty : TypeId) (x y : Operand) (ho : o.op = .store ty x y)
    {g : Nat} {t : TypeId} {cs vs : Array Value} (hx : a.eval x = .pointer (some ⟨g, 0, none⟩)) (hy : a.eval y = .agg vs) (hg : Blk w g cs t) (hs : cs.size = vs.size)
    (hi : (P.info? ty).map (·.size) = some vs.size) (h1 : vs.all (·.oneCell') = true)
    (h : wpList P ops Q rest (a.put o.dst undef) (w.setCells g 0 vs.toList)) : wpList P ops Q (o :: rest) a w :=
  wpList_store_mid hgd ty x y ho g 0 vs hx hy (hs ▸ hg.there) hi h1 h
theorem St.set {B : Nat} {W w : World} {b : Nat} {c : Array Value} {t : TypeId} {l : List (Nat × Array Value × TypeId)} (h : St B W w ((b, c, t) :: l)) (hB : B ≤ b) (hne : ∀ x ∈ l, x.1 ≠ b) (o : Nat) (v : Value) :
    St B W (w.setCell ⟨b, o, none⟩ v) ((b, c.setIfInBounds o v, t) :: l) :=
  ⟨h.below.setCell hB v, fun x hx => by
    rcases List.mem_cons.1 hx with rfl | hx
    · exact (h.at (b := b) (c := c) (t := t) (by simp)).set o v
    · exact (h.live x (List.mem_cons_of_mem _ hx)).setFar (a := ⟨b, o, none⟩) (hne x hx) v⟩
theorem St.setAll {B : Nat} {W w : World} {b : Nat} {c : Array Value} {t : TypeId} {l : List (Nat × Array Value × TypeId)} (h : St B W w ((b, c, t) :: l)) (hB : B ≤ b) (hne : ∀ x ∈ l, x.1 ≠ b) (vs : Array Value) (hs : c.size = vs.size) :
    St B W (w.setCells b 0 vs.toList) ((b, vs, t) :: l) :=
  ⟨below_setCells hB _ _ _ h.below, fun x hx => by
    rcases List.mem_cons.1 hx with rfl | hx
    · exact (h.at (b := b) (c := c) (t := t) (by simp)).setAll vs hs
    · exact (heap_setCells (hne x hx) _ _ _).trans (h.live x (List.mem_cons_of_mem _ hx))⟩
theorem St.perm {B : Nat} {W w : World} {l l' : List (Nat × Array Value × TypeId)} (h : St B W w l) (hs : l' ⊆ l) : St B W w l' := ⟨h.below, fun x hx => h.live x (hs hx)⟩
theorem St.new3' (w : World) (c0 c1 c2 : Array Value) (t0 t1 t2 : TypeId) : St w.heap.size w (((w.alloc (.cells c0 t0)).alloc (.cells c1 t1)).alloc (.cells c2 t2)) [(w.heap.size + 1 + 1, c2, t2), (w.heap.size + 1, c1, t1), (w.heap.size, c0, t0)] := by
  have h := (St.new2 w c0 c1 t0 t1).new c2 t2
  rw [show ((w.alloc (.cells c0 t0)).alloc (.cells c1 t1)).heap.size = w.heap.size + 1 + 1 from by simp] at h
  exact h
/-- A RESULT THAT IS A WHOLE ARRAY -/
theorem results_blk {P : Program} {fn : Func} {p : Tmp} {ty : TypeId} (h : fn.results = #[.cell p ty]) (tmps : Array Value) (w : World) {g n : Nat} {e t : TypeId} {cs : Array Value}
    (hp : tmps.getD p undef = .pointer (some ⟨g, 0, none⟩)) (hg : Blk w g cs t) (hu : P.underlying ty = some (.array n e)) (hi : (P.info? ty).map (·.size) = some cs.size) :
    (results fn tmps).run P w = .ok (.agg cs) w := results_cell_row h tmps w g t cs (0, 0) (.array n e) hp hg hu rfl hi
end Go.Proofs.YtgedpgdefafofaaDoor
end

section
/- '==' and '!=' on hashes; a law's argument of type api.Hash; no number of four words in sight. -/
namespace Go.Proofs.YtgedpgdefafofaaDoor
open Go Go.ChangeShapes Go.WideShapes Go.ChangeAt Go.RowKit

theorem isAgg_u8 (w : World) : (isAgg 5).run Tryd.prog w = .ok false w := by kernel_rfl
theorem sizeOf_u8 (w : World) : (Go.sizeOf 5).run Tryd.prog w = .ok 1 w := by kernel_rfl
theorem byt_all (a b : Nat) (ha : a < W256) (hb : b < W256) : ((List.range 32).all fun i => byt a i == byt b i) = (a == b) := by
  rw [W256_eq] at *
  rw [Bool.eq_iff_iff, List.all_eq_true, beq_iff_eq]
  constructor
  · intro h
    refine bn_ext ha hb fun k hk => ?_
    have := h k (List.mem_range.2 hk)
    rw [beq_iff_eq, byt_eq, byt_eq] at this
    omega
  · rintro rfl; simp
theorem heql (a b : Nat) (ha : a < W256) (hb : b < W256) (w : World) : (binOp .eql 24 (hv a) (hv b)).run Tryd.prog w = .ok (.bool (a == b)) w := by
  rw [← byt_all a b ha hb]
  exact run_eql_ints 24 5 32 .u8 .u8 (hcs a) (hcs b) (byt a) (byt b) w Tryd.underlying24 Tryd.underlying5 isAgg_u8 sizeOf_u8 (fun i hi => hcs_get a i hi) (fun i hi => hcs_get b i hi)
theorem hneq (a b : Nat) (ha : a < W256) (hb : b < W256) (w : World) : (binOp .neq 24 (hv a) (hv b)).run Tryd.prog w = .ok (.bool (a != b)) w := by
  rw [show (a != b) = !(a == b) from rfl, ← byt_all a b ha hb]
  exact run_neq_ints 24 5 32 .u8 .u8 (hcs a) (hcs b) (byt a) (byt b) w Tryd.underlying24 Tryd.underlying5 isAgg_u8 sizeOf_u8 (fun i hi => hcs_get a i hi) (fun i hi => hcs_get b i hi)
/-- 32 bytes are a number -/
def hnum (f : Nat → Int) : Nat → Nat
  | 0 => 0
  | n + 1 => hnum f n + 2 ^ (8 * n) * (f n).toNat
theorem hnum_lt (f : Nat → Int) : ∀ n, (∀ i, i < n → 0 ≤ f i ∧ f i ≤ 255) → hnum f n < 2 ^ (8 * n)
  | 0, _ => by simp [hnum]
  | n + 1, h => by
    have ih := hnum_lt f n (fun i hi => h i (by omega))
    obtain ⟨h0, h1⟩ := h n (by omega)
    have hf : (f n).toNat ≤ 255 := by omega
    have := Nat.mul_le_mul_left (2 ^ (8 * n)) hf
    rw [show 2 ^ (8 * (n + 1)) = 2 ^ (8 * n) * 2 ^ 8 from Nat.pow_add 2 (8 * n) 8]
    unfold hnum
    omega
theorem hnum_byte (f : Nat → Int) : ∀ n, (∀ i, i < n → 0 ≤ f i ∧ f i ≤ 255) → ∀ i, i < n → bn (hnum f n) i = (f i).toNat
  | 0, _, _, hi => by omega
  | n + 1, h, i, hi => by
    have hlt := hnum_lt f n (fun i hi => h i (by omega))
    obtain ⟨h0, h1⟩ := h n (by omega)
    unfold hnum
    by_cases hin : i < n
    · rw [← hnum_byte f n (fun i hi => h i (by omega)) i hin]
      unfold bn
      rw [show 2 ^ (8 * n) * (f n).toNat = 2 ^ (8 * i) * (2 ^ (8 * (n - i)) * (f n).toNat) from by rw [← Nat.mul_assoc, ← Nat.pow_add]; congr 2; omega]
      rw [Nat.add_mul_div_left _ _ (Nat.two_pow_pos _)]
      rw [show 2 ^ (8 * (n - i)) * (f n).toNat = 2 ^ 8 * (2 ^ (8 * (n - i) - 8) * (f n).toNat) from by rw [← Nat.mul_assoc, ← Nat.pow_add]; congr 2; omega]
      rw [Nat.add_mul_mod_self_left]
    · obtain rfl : i = n := by omega
      unfold bn
      rw [Nat.add_mul_div_left _ _ (Nat.two_pow_pos _), Nat.div_eq_of_lt hlt, Nat.zero_add]
      omega
theorem hls_of (f : Nat → Int) (h : ∀ i, i < 32 → 0 ≤ f i ∧ f i ≤ 255) : ((List.range 32).map fun i => Value.int .u8 (f i)) = hls (hnum f 32) := by
  unfold hls
  apply List.map_congr_left
  intro i hi
  rw [byt_eq, hnum_byte f 32 h i (List.mem_range.1 hi)]
  have := h i (List.mem_range.1 hi)
  congr 1; omega
set_option maxRecDepth 100000 in
theorem open_hash {H : Type} {enc : TypeId × Value → H} {w : World} {base b0 : Nat} {spare : Nat → Bool} {held : Bool} {r : Reach} {v : Value} {d : DataW H} {p : List MemPlace}
    (hv : Value.okWide Tryd.prog w r b0 24 v) (h : DataW.Trod enc Tryd.prog w base spare held 24 v d p) : ∃ n, n < W256 ∧ v = .agg (hcs n) := by
  obtain ⟨f, rfl, hw⟩ := open_arr (n := 32) (k := .u8) Tryd.underlying24 Tryd.underlying5 (by kernel_rfl) (by kernel_rfl) hv h
  have b : ∀ i, i < 32 → 0 ≤ f i ∧ f i ≤ 255 := fun i hi => by first | exact bounds_u8 (hw i hi) | (have := hw i hi; simp [Lit.wf, IntKind.min, IntKind.max] at this; omega)
  refine ⟨hnum f 32, hnum_lt f 32 b, ?_⟩
  unfold hcs
  rw [← hls_of f b]
end Go.Proofs.YtgedpgdefafofaaDoor
end

section
/- Small things that many walks want. -/
namespace Go.Proofs.YtgedpgdefafofaaDoor
open Go Go.RowKit
set_option linter.unusedSimpArgs false
set_option linter.unusedVariables false
set_option maxRecDepth 100000

theorem two_blocks (w : World) (c1 c2 : Array Value) (t1 t2 : TypeId) : Blk ((w.alloc (.cells c1 t1)).alloc (.cells c2 t2)) w.heap.size c1 t1 ∧ Blk ((w.alloc (.cells c1 t1)).alloc (.cells c2 t2)) (w.heap.size + 1) c2 t2 ∧ Below w.heap.size w ((w.alloc (.cells c1 t1)).alloc (.cells c2 t2)) := by
  have b1 := Blk.new w c1 t1
  have k := (Below.refl (w.alloc (.cells c1 t1)).heap.size (w.alloc (.cells c1 t1))).alloc (Nat.le_refl _) (.cells c2 t2)
  have hs : (w.alloc (.cells c1 t1)).heap.size = w.heap.size + 1 := by simp
  refine ⟨b1.beyond k, ?_, ((Below.refl w.heap.size w).alloc (Nat.le_refl _) _).alloc (by rw [hs]; omega) _⟩
  have := Blk.new (w.alloc (.cells c1 t1)) c2 t2
  rw [hs] at this; exact this
theorem u8info' : (Tryd.prog.info? 5).map (fun i => (i.zero, i.size, i.bytes)) = some (some (.int .u8 0), 1, 1) := by kernel_rfl
end Go.Proofs.YtgedpgdefafofaaDoor
end

section
/- SipHash, the program's: RotateLeft64, round. -/
namespace Go.Proofs.YtgedpgdefafofaaDoor
open Go Go.RowKit
set_option linter.unusedSimpArgs false
set_option linter.unusedVariables false
set_option maxRecDepth 100000

theorem shl64 (x : B64) (s : Nat) (h : s ≤ 64) : Op.shift .shl .u64 (lv x) .u64 (s : Int) = pure (.int .u64 (lv (x <<< s))) := by
  rw [shift_shl .u64 .u64 (lv x) (s : Int) (by omega) (by show (s : Int) ≤ 64; omega), Int.toNat_natCast, lv_shl]
theorem shr64 (x : B64) (s : Nat) (h : s ≤ 64) : Op.shift .shr .u64 (lv x) .u64 (s : Int) = pure (.int .u64 (lv (x >>> s))) := by
  rw [shift_shr .u64 .u64 (lv x) (s : Int) (by omega) (by show (s : Int) ≤ 64; omega), Int.toNat_natCast, lv_shr]
theorem rotl64 (x : B64) (n : Nat) (h0 : 0 < n) (h1 : n < 64) (w : World) :
    Calls Tryd.prog 98 #[.int .u64 (lv x), .int .i64 (n : Int)] w fun e w' => e = .returned (.int .u64 (lv (rol x n))) ∧ w = w' := by
  obtain ⟨s, hs⟩ : ∃ s, s + n = 64 := ⟨64 - n, by omega⟩
  have hm : bits .and .u64 (n : Int) 63 = (n : Int) := by
    have := u64_and_nat n 63 (by omega) (by decide)
    rw [show (63 : Int) = ((63 : Nat) : Int) from rfl, this, show n &&& 63 = n % 2 ^ 6 from Nat.and_two_pow_sub_one_eq_mod n 6, Nat.mod_eq_of_lt (by omega)]
  have hw0 : IntKind.u64.wrap (n : Int) = (n : Int) := IntWalk.u64_in _ (by omega)
  have hd : IntKind.u64.wrap (64 - (n : Int)) = (s : Int) := by simp [IntKind.wrap, IntKind.bits, IntKind.signed]; omega
  have hd2 : (64 : Int) - (n : Int) = (s : Int) := by omega
  have e1 := shl64 x n (by omega)
  have e2 := shr64 x s (by omega)
  have OR := lv_or
  have HE := Lib.hid (show (x <<< n) ||| (x >>> s) = rol x n from by rw [← rol_or x n h1, show 64 - n = s from by omega])
  clear h0 h1 hs
  go_enter Tryd.func98, Tryd.ntmps98
  go_wp2
  go_ret
  refine ⟨?_, rfl⟩
  show Ending.returned (.int .u64 (bits .or .u64 (IntKind.u64.wrap (lv x * 2 ^ n)) (lv x / 2 ^ s))) = _
  rw [lv_shl, lv_shr, lv_or, HE.out]
/-- four words, as cells -/
abbrev q64 (a b c d : B64) : Array Value := #[.int .u64 (lv a), .int .u64 (lv b), .int .u64 (lv c), .int .u64 (lv d)]
theorem sip_info (s : Sip) : (Tryd.prog.info? 138).map (·.size) = some s.cells.size := by kernel_rfl
theorem sip_size (s : Sip) : (#[.int .u64 0, .int .u64 0, .int .u64 0, .int .u64 0] : Array Value).size = s.cells.size := rfl
theorem sip_all (s : Sip) : s.cells.all (·.oneCell') = true := by simp [Sip.cells, Value.oneCell']
set_option maxHeartbeats 3200000 in
theorem pround (a b c d : B64) (w : World) :
    Calls Tryd.prog 93 #[.agg (q64 a b c d)] w fun e w' => e = .returned (.agg (sipRound ⟨a, b, c, d⟩).cells) ∧ Below w.heap.size w w' := by
  have L := two_blocks w (q64 a b c d) #[.int .u64 0, .int .u64 0, .int .u64 0, .int .u64 0] 138 138
  have hs2 : ((w.alloc (.cells (q64 a b c d) 138)).alloc (.cells #[.int .u64 0, .int .u64 0, .int .u64 0, .int .u64 0] 138)).heap.size = w.heap.size + 2 := by simp
  have HL := Lib.hid (And.intro L hs2)
  clear L hs2
  have ADD := lv_add
  have XOR := lv_xor
  go_enter Tryd.func93, Tryd.ntmps93
  go_upto_region 2 with fail
  generalize (w.alloc (.cells (q64 a b c d) 138)).alloc (.cells #[.int .u64 0, .int .u64 0, .int .u64 0, .int .u64 0] 138) = W at *
  generalize hgw : w.heap.size = vb at *
  have B := HL.out.1.1
  have K0 : Keep (fun g => g = vb) W W := Keep.refl _ _
  have cc := B.cell
  have ff := B.free
  have B2 : Blk ((W.setCell ⟨vb, 0, none⟩ (.int .u64 (lv (a + b)))).setCell ⟨vb, 2, none⟩ (.int .u64 (lv (c + d)))) vb (q64 (a + b) b (c + d) d) 138 := (B.set 0 _).set 2 _
  have K2 := (K0.set (p := ⟨vb, 0, none⟩) (.inl rfl) (.int .u64 (lv (a + b)))).set (p := ⟨vb, 2, none⟩) (.inl rfl) (.int .u64 (lv (c + d)))
  have HB2 := Lib.hid B2
  have HK2 := Lib.hid K2
  clear B K0 B2 K2
  go_upto_region 4 with fail
  generalize (W.setCell ⟨vb, 0, none⟩ (.int .u64 (lv (a + b)))).setCell ⟨vb, 2, none⟩ (.int .u64 (lv (c + d))) = W2 at HB2 HK2 ⊢
  clear cc ff
  have cc := HB2.out.cell
  have ff := HB2.out.free
  refine wp_region_last 8 (fun w' => w' = W2.drew) (by kernel_rfl) rfl (fun hS => ?_)
  refine wpAnyL_take (i := 0) (oi := ⟨_, _, _, _, _, _⟩) (v := ?_) rfl (by kernel_rfl) (by kernel_rfl) (by kernel_rfl) (by kernel_rfl) (fun _ _ _ h => h) (Or.inl ⟨by rfl, ?_⟩) hS ?_
  rotate_left
  · intro w0 hs; subst hs; go_simp; try (with_reducible rfl)
  try simp only [Act.put, List.setIfInBounds_toArray, List.set_cons_zero, List.set_cons_succ]
  refine wpAnyL_take (i := 1) (oi := ⟨_, _, _, _, _, _⟩) (v := ?_) rfl (by kernel_rfl) (by kernel_rfl) (by kernel_rfl) (by kernel_rfl) (fun _ _ _ h => h) (Or.inl ⟨by rfl, ?_⟩) hS ?_
  rotate_left
  · intro w0 hs; subst hs; go_simp; try (with_reducible rfl)
  try simp only [Act.put, List.setIfInBounds_toArray, List.set_cons_zero, List.set_cons_succ]
  refine wpAnyL_take (i := 2) (oi := ⟨_, _, _, _, _, _⟩) (v := ?_) rfl (by kernel_rfl) (by kernel_rfl) (by kernel_rfl) (by kernel_rfl) (fun _ _ _ h => h) (Or.inl ⟨by rfl, ?_⟩) hS ?_
  rotate_left
  · intro w0 hs; subst hs; go_simp; try (with_reducible rfl)
  try simp only [Act.put, List.setIfInBounds_toArray, List.set_cons_zero, List.set_cons_succ]
  refine wpAnyL_take (i := 4) (oi := ⟨_, _, _, _, _, _⟩) (v := ?_) rfl (by kernel_rfl) (by kernel_rfl) (by kernel_rfl) (by kernel_rfl) (fun _ _ _ h => h) (Or.inl ⟨by rfl, ?_⟩) hS ?_
  rotate_left
  · intro w0 hs; subst hs; go_simp; try (with_reducible rfl)
  try simp only [Act.put, List.setIfInBounds_toArray, List.set_cons_zero, List.set_cons_succ]
  refine wpAnyL_take (i := 5) (oi := ⟨_, _, _, _, _, _⟩) (v := ?_) rfl (by kernel_rfl) (by kernel_rfl) (by kernel_rfl) (by kernel_rfl) (fun _ _ _ h => h) (Or.inl ⟨by rfl, ?_⟩) hS ?_
  rotate_left
  · intro w0 hs; subst hs; go_simp; try (with_reducible rfl)
  try simp only [Act.put, List.setIfInBounds_toArray, List.set_cons_zero, List.set_cons_succ]
  refine wpAnyL_one (i := 3) (oi := ⟨_, _, _, _, _, _⟩) rfl (by kernel_rfl) (fun K hK => ?_)
  rw [if_pos (by rfl)]
  go_step
  refine (rotl64 b 13 (by decide) (by decide) _).mono ?_
  rintro e v1 ⟨rfl, rfl⟩
  simp only []
  have hS' := hS
  refine hK.out _ _ (.inr hS') ?_
  clear hS hK
  have hS := hS'; clear hS'
  try simp only [Act.put, List.setIfInBounds_toArray, List.set_cons_zero, List.set_cons_succ]
  refine wpAnyL_take (i := 6) (oi := ⟨_, _, _, _, _, _⟩) (v := ?_) rfl (by kernel_rfl) (by kernel_rfl) (by kernel_rfl) (by kernel_rfl) (fun _ _ _ h => h) (Or.inl ⟨by rfl, ?_⟩) hS ?_
  rotate_left
  · intro w0 hs; subst hs; go_simp; try (with_reducible rfl)
  try simp only [Act.put, List.setIfInBounds_toArray, List.set_cons_zero, List.set_cons_succ]
  refine wpAnyL_take (i := 7) (oi := ⟨_, _, _, _, _, _⟩) (v := ?_) rfl (by kernel_rfl) (by kernel_rfl) (by kernel_rfl) (by kernel_rfl) (fun _ _ _ h => h) (Or.inl ⟨by rfl, ?_⟩) hS ?_
  rotate_left
  · intro w0 hs; subst hs; go_simp; try (with_reducible rfl)
  try simp only [Act.put, List.setIfInBounds_toArray, List.set_cons_zero, List.set_cons_succ]
  refine wpAnyL_one (i := 8) (oi := ⟨_, _, _, _, _, _⟩) rfl (by kernel_rfl) (fun K hK => ?_)
  rw [if_pos (by rfl)]
  clear hS
  go_simp
  refine hK.out _ _ (.inl rfl) ?_
  clear hK
  try simp only [Act.put, List.setIfInBounds_toArray, List.set_cons_zero, List.set_cons_succ]
  refine wpAnyL_done (by kernel_rfl) ?_ _
  have B3 : Blk ((W2.setCell ⟨vb, 1, none⟩ (.int .u64 (lv (rol b 13 ^^^ (a + b))))).drew) vb (q64 (a + b) (rol b 13 ^^^ (a + b)) (c + d) d) 138 := (HB2.out.set 1 _).drew
  have K3 := (HK2.out.set (p := ⟨vb, 1, none⟩) (.inl rfl) (.int .u64 (lv (rol b 13 ^^^ (a + b))))).drew
  have HB3 := Lib.hid B3
  have HK3 := Lib.hid K3
  clear B3 K3
  go_upto_region 5 with fail
  generalize (W2.setCell ⟨vb, 1, none⟩ (.int .u64 (lv (rol b 13 ^^^ (a + b))))).drew = W3 at HB3 HK3 ⊢
  clear cc ff
  have cc := HB3.out.cell
  have ff := HB3.out.free
  refine wp_region_last 8 (fun w' => w' = W3.drew) (by kernel_rfl) rfl (fun hS => ?_)
  refine wpAnyL_take (i := 0) (oi := ⟨_, _, _, _, _, _⟩) (v := ?_) rfl (by kernel_rfl) (by kernel_rfl) (by kernel_rfl) (by kernel_rfl) (fun _ _ _ h => h) (Or.inl ⟨by rfl, ?_⟩) hS ?_
  rotate_left
  · intro w0 hs; subst hs; go_simp; try (with_reducible rfl)
  try simp only [Act.put, List.setIfInBounds_toArray, List.set_cons_zero, List.set_cons_succ]
  refine wpAnyL_take (i := 1) (oi := ⟨_, _, _, _, _, _⟩) (v := ?_) rfl (by kernel_rfl) (by kernel_rfl) (by kernel_rfl) (by kernel_rfl) (fun _ _ _ h => h) (Or.inl ⟨by rfl, ?_⟩) hS ?_
  rotate_left
  · intro w0 hs; subst hs; go_simp; try (with_reducible rfl)
  try simp only [Act.put, List.setIfInBounds_toArray, List.set_cons_zero, List.set_cons_succ]
  refine wpAnyL_take (i := 2) (oi := ⟨_, _, _, _, _, _⟩) (v := ?_) rfl (by kernel_rfl) (by kernel_rfl) (by kernel_rfl) (by kernel_rfl) (fun _ _ _ h => h) (Or.inl ⟨by rfl, ?_⟩) hS ?_
  rotate_left
  · intro w0 hs; subst hs; go_simp; try (with_reducible rfl)
  try simp only [Act.put, List.setIfInBounds_toArray, List.set_cons_zero, List.set_cons_succ]
  refine wpAnyL_take (i := 4) (oi := ⟨_, _, _, _, _, _⟩) (v := ?_) rfl (by kernel_rfl) (by kernel_rfl) (by kernel_rfl) (by kernel_rfl) (fun _ _ _ h => h) (Or.inl ⟨by rfl, ?_⟩) hS ?_
  rotate_left
  · intro w0 hs; subst hs; go_simp; try (with_reducible rfl)
  try simp only [Act.put, List.setIfInBounds_toArray, List.set_cons_zero, List.set_cons_succ]
  refine wpAnyL_take (i := 5) (oi := ⟨_, _, _, _, _, _⟩) (v := ?_) rfl (by kernel_rfl) (by kernel_rfl) (by kernel_rfl) (by kernel_rfl) (fun _ _ _ h => h) (Or.inl ⟨by rfl, ?_⟩) hS ?_
  rotate_left
  · intro w0 hs; subst hs; go_simp; try (with_reducible rfl)
  try simp only [Act.put, List.setIfInBounds_toArray, List.set_cons_zero, List.set_cons_succ]
  refine wpAnyL_one (i := 3) (oi := ⟨_, _, _, _, _, _⟩) rfl (by kernel_rfl) (fun K hK => ?_)
  rw [if_pos (by rfl)]
  go_step
  refine (rotl64 d 16 (by decide) (by decide) _).mono ?_
  rintro e v1 ⟨rfl, rfl⟩
  simp only []
  have hS' := hS
  refine hK.out _ _ (.inr hS') ?_
  clear hS hK
  have hS := hS'; clear hS'
  try simp only [Act.put, List.setIfInBounds_toArray, List.set_cons_zero, List.set_cons_succ]
  refine wpAnyL_take (i := 6) (oi := ⟨_, _, _, _, _, _⟩) (v := ?_) rfl (by kernel_rfl) (by kernel_rfl) (by kernel_rfl) (by kernel_rfl) (fun _ _ _ h => h) (Or.inl ⟨by rfl, ?_⟩) hS ?_
  rotate_left
  · intro w0 hs; subst hs; go_simp; try (with_reducible rfl)
  try simp only [Act.put, List.setIfInBounds_toArray, List.set_cons_zero, List.set_cons_succ]
  refine wpAnyL_take (i := 7) (oi := ⟨_, _, _, _, _, _⟩) (v := ?_) rfl (by kernel_rfl) (by kernel_rfl) (by kernel_rfl) (by kernel_rfl) (fun _ _ _ h => h) (Or.inl ⟨by rfl, ?_⟩) hS ?_
  rotate_left
  · intro w0 hs; subst hs; go_simp; try (with_reducible rfl)
  try simp only [Act.put, List.setIfInBounds_toArray, List.set_cons_zero, List.set_cons_succ]
  refine wpAnyL_one (i := 8) (oi := ⟨_, _, _, _, _, _⟩) rfl (by kernel_rfl) (fun K hK => ?_)
  rw [if_pos (by rfl)]
  clear hS
  go_simp
  refine hK.out _ _ (.inl rfl) ?_
  clear hK
  try simp only [Act.put, List.setIfInBounds_toArray, List.set_cons_zero, List.set_cons_succ]
  refine wpAnyL_done (by kernel_rfl) ?_ _
  have B4 : Blk ((W3.setCell ⟨vb, 3, none⟩ (.int .u64 (lv (rol d 16 ^^^ (c + d))))).drew) vb (q64 (a + b) (rol b 13 ^^^ (a + b)) (c + d) (rol d 16 ^^^ (c + d))) 138 := (HB3.out.set 3 _).drew
  have K4 := (HK3.out.set (p := ⟨vb, 3, none⟩) (.inl rfl) (.int .u64 (lv (rol d 16 ^^^ (c + d))))).drew
  have HB4 := Lib.hid B4
  have HK4 := Lib.hid K4
  clear B4 K4
  go_upto_region 6 with fail
  generalize (W3.setCell ⟨vb, 3, none⟩ (.int .u64 (lv (rol d 16 ^^^ (c + d))))).drew = W4 at HB4 HK4 ⊢
  clear cc ff
  have cc := HB4.out.cell
  have ff := HB4.out.free
  refine wp_region_last 8 (fun w' => w' = W4.drew) (by kernel_rfl) rfl (fun hS => ?_)
  refine wpAnyL_take (i := 0) (oi := ⟨_, _, _, _, _, _⟩) (v := ?_) rfl (by kernel_rfl) (by kernel_rfl) (by kernel_rfl) (by kernel_rfl) (fun _ _ _ h => h) (Or.inl ⟨by rfl, ?_⟩) hS ?_
  rotate_left
  · intro w0 hs; subst hs; go_simp; try (with_reducible rfl)
  try simp only [Act.put, List.setIfInBounds_toArray, List.set_cons_zero, List.set_cons_succ]
  refine wpAnyL_take (i := 1) (oi := ⟨_, _, _, _, _, _⟩) (v := ?_) rfl (by kernel_rfl) (by kernel_rfl) (by kernel_rfl) (by kernel_rfl) (fun _ _ _ h => h) (Or.inl ⟨by rfl, ?_⟩) hS ?_
  rotate_left
  · intro w0 hs; subst hs; go_simp; try (with_reducible rfl)
  try simp only [Act.put, List.setIfInBounds_toArray, List.set_cons_zero, List.set_cons_succ]
  refine wpAnyL_take (i := 2) (oi := ⟨_, _, _, _, _, _⟩) (v := ?_) rfl (by kernel_rfl) (by kernel_rfl) (by kernel_rfl) (by kernel_rfl) (fun _ _ _ h => h) (Or.inl ⟨by rfl, ?_⟩) hS ?_
  rotate_left
  · intro w0 hs; subst hs; go_simp; try (with_reducible rfl)
  try simp only [Act.put, List.setIfInBounds_toArray, List.set_cons_zero, List.set_cons_succ]
  refine wpAnyL_take (i := 4) (oi := ⟨_, _, _, _, _, _⟩) (v := ?_) rfl (by kernel_rfl) (by kernel_rfl) (by kernel_rfl) (by kernel_rfl) (fun _ _ _ h => h) (Or.inl ⟨by rfl, ?_⟩) hS ?_
  rotate_left
  · intro w0 hs; subst hs; go_simp; try (with_reducible rfl)
  try simp only [Act.put, List.setIfInBounds_toArray, List.set_cons_zero, List.set_cons_succ]
  refine wpAnyL_take (i := 5) (oi := ⟨_, _, _, _, _, _⟩) (v := ?_) rfl (by kernel_rfl) (by kernel_rfl) (by kernel_rfl) (by kernel_rfl) (fun _ _ _ h => h) (Or.inl ⟨by rfl, ?_⟩) hS ?_
  rotate_left
  · intro w0 hs; subst hs; go_simp; try (with_reducible rfl)
  try simp only [Act.put, List.setIfInBounds_toArray, List.set_cons_zero, List.set_cons_succ]
  refine wpAnyL_one (i := 3) (oi := ⟨_, _, _, _, _, _⟩) rfl (by kernel_rfl) (fun K hK => ?_)
  rw [if_pos (by rfl)]
  go_step
  refine (rotl64 (a + b) 32 (by decide) (by decide) _).mono ?_
  rintro e v1 ⟨rfl, rfl⟩
  simp only []
  have hS' := hS
  refine hK.out _ _ (.inr hS') ?_
  clear hS hK
  have hS := hS'; clear hS'
  try simp only [Act.put, List.setIfInBounds_toArray, List.set_cons_zero, List.set_cons_succ]
  refine wpAnyL_take (i := 6) (oi := ⟨_, _, _, _, _, _⟩) (v := ?_) rfl (by kernel_rfl) (by kernel_rfl) (by kernel_rfl) (by kernel_rfl) (fun _ _ _ h => h) (Or.inl ⟨by rfl, ?_⟩) hS ?_
  rotate_left
  · intro w0 hs; subst hs; go_simp; try (with_reducible rfl)
  try simp only [Act.put, List.setIfInBounds_toArray, List.set_cons_zero, List.set_cons_succ]
  refine wpAnyL_take (i := 7) (oi := ⟨_, _, _, _, _, _⟩) (v := ?_) rfl (by kernel_rfl) (by kernel_rfl) (by kernel_rfl) (by kernel_rfl) (fun _ _ _ h => h) (Or.inl ⟨by rfl, ?_⟩) hS ?_
  rotate_left
  · intro w0 hs; subst hs; go_simp; try (with_reducible rfl)
  try simp only [Act.put, List.setIfInBounds_toArray, List.set_cons_zero, List.set_cons_succ]
  refine wpAnyL_one (i := 8) (oi := ⟨_, _, _, _, _, _⟩) rfl (by kernel_rfl) (fun K hK => ?_)
  rw [if_pos (by rfl)]
  clear hS
  go_simp
  refine hK.out _ _ (.inl rfl) ?_
  clear hK
  try simp only [Act.put, List.setIfInBounds_toArray, List.set_cons_zero, List.set_cons_succ]
  refine wpAnyL_done (by kernel_rfl) ?_ _
  have B5 : Blk ((W4.setCell ⟨vb, 0, none⟩ (.int .u64 (lv (rol (a + b) 32 + (rol d 16 ^^^ (c + d)))))).drew) vb (q64 (rol (a + b) 32 + (rol d 16 ^^^ (c + d))) (rol b 13 ^^^ (a + b)) (c + d) (rol d 16 ^^^ (c + d))) 138 := (HB4.out.set 0 _).drew
  have K5 := (HK4.out.set (p := ⟨vb, 0, none⟩) (.inl rfl) (.int .u64 (lv (rol (a + b) 32 + (rol d 16 ^^^ (c + d)))))).drew
  have HB5 := Lib.hid B5
  have HK5 := Lib.hid K5
  clear B5 K5
  go_upto_region 7 with fail
  generalize (W4.setCell ⟨vb, 0, none⟩ (.int .u64 (lv (rol (a + b) 32 + (rol d 16 ^^^ (c + d)))))).drew = W5 at HB5 HK5 ⊢
  clear cc ff
  have cc := HB5.out.cell
  have ff := HB5.out.free
  have B6 : Blk ((W5.setCell ⟨vb, 2, none⟩ (.int .u64 (lv ((c + d) + (rol b 13 ^^^ (a + b))))))) vb (q64 (rol (a + b) 32 + (rol d 16 ^^^ (c + d))) (rol b 13 ^^^ (a + b)) ((c + d) + (rol b 13 ^^^ (a + b))) (rol d 16 ^^^ (c + d))) 138 := (HB5.out.set 2 _)
  have K6 := (HK5.out.set (p := ⟨vb, 2, none⟩) (.inl rfl) (.int .u64 (lv ((c + d) + (rol b 13 ^^^ (a + b))))))
  have HB6 := Lib.hid B6
  have HK6 := Lib.hid K6
  clear B6 K6
  go_upto_region 8 with fail
  generalize (W5.setCell ⟨vb, 2, none⟩ (.int .u64 (lv ((c + d) + (rol b 13 ^^^ (a + b)))))) = W6 at HB6 HK6 ⊢
  clear cc ff
  have cc := HB6.out.cell
  have ff := HB6.out.free
  refine wp_region_last 8 (fun w' => w' = W6.drew) (by kernel_rfl) rfl (fun hS => ?_)
  refine wpAnyL_take (i := 0) (oi := ⟨_, _, _, _, _, _⟩) (v := ?_) rfl (by kernel_rfl) (by kernel_rfl) (by kernel_rfl) (by kernel_rfl) (fun _ _ _ h => h) (Or.inl ⟨by rfl, ?_⟩) hS ?_
  rotate_left
  · intro w0 hs; subst hs; go_simp; try (with_reducible rfl)
  try simp only [Act.put, List.setIfInBounds_toArray, List.set_cons_zero, List.set_cons_succ]
  refine wpAnyL_take (i := 1) (oi := ⟨_, _, _, _, _, _⟩) (v := ?_) rfl (by kernel_rfl) (by kernel_rfl) (by kernel_rfl) (by kernel_rfl) (fun _ _ _ h => h) (Or.inl ⟨by rfl, ?_⟩) hS ?_
  rotate_left
  · intro w0 hs; subst hs; go_simp; try (with_reducible rfl)
  try simp only [Act.put, List.setIfInBounds_toArray, List.set_cons_zero, List.set_cons_succ]
  refine wpAnyL_take (i := 2) (oi := ⟨_, _, _, _, _, _⟩) (v := ?_) rfl (by kernel_rfl) (by kernel_rfl) (by kernel_rfl) (by kernel_rfl) (fun _ _ _ h => h) (Or.inl ⟨by rfl, ?_⟩) hS ?_
  rotate_left
  · intro w0 hs; subst hs; go_simp; try (with_reducible rfl)
  try simp only [Act.put, List.setIfInBounds_toArray, List.set_cons_zero, List.set_cons_succ]
  refine wpAnyL_take (i := 4) (oi := ⟨_, _, _, _, _, _⟩) (v := ?_) rfl (by kernel_rfl) (by kernel_rfl) (by kernel_rfl) (by kernel_rfl) (fun _ _ _ h => h) (Or.inl ⟨by rfl, ?_⟩) hS ?_
  rotate_left
  · intro w0 hs; subst hs; go_simp; try (with_reducible rfl)
  try simp only [Act.put, List.setIfInBounds_toArray, List.set_cons_zero, List.set_cons_succ]
  refine wpAnyL_take (i := 5) (oi := ⟨_, _, _, _, _, _⟩) (v := ?_) rfl (by kernel_rfl) (by kernel_rfl) (by kernel_rfl) (by kernel_rfl) (fun _ _ _ h => h) (Or.inl ⟨by rfl, ?_⟩) hS ?_
  rotate_left
  · intro w0 hs; subst hs; go_simp; try (with_reducible rfl)
  try simp only [Act.put, List.setIfInBounds_toArray, List.set_cons_zero, List.set_cons_succ]
  refine wpAnyL_one (i := 3) (oi := ⟨_, _, _, _, _, _⟩) rfl (by kernel_rfl) (fun K hK => ?_)
  rw [if_pos (by rfl)]
  go_step
  refine (rotl64 (rol d 16 ^^^ (c + d)) 21 (by decide) (by decide) _).mono ?_
  rintro e v1 ⟨rfl, rfl⟩
  simp only []
  have hS' := hS
  refine hK.out _ _ (.inr hS') ?_
  clear hS hK
  have hS := hS'; clear hS'
  try simp only [Act.put, List.setIfInBounds_toArray, List.set_cons_zero, List.set_cons_succ]
  refine wpAnyL_take (i := 6) (oi := ⟨_, _, _, _, _, _⟩) (v := ?_) rfl (by kernel_rfl) (by kernel_rfl) (by kernel_rfl) (by kernel_rfl) (fun _ _ _ h => h) (Or.inl ⟨by rfl, ?_⟩) hS ?_
  rotate_left
  · intro w0 hs; subst hs; go_simp; try (with_reducible rfl)
  try simp only [Act.put, List.setIfInBounds_toArray, List.set_cons_zero, List.set_cons_succ]
  refine wpAnyL_take (i := 7) (oi := ⟨_, _, _, _, _, _⟩) (v := ?_) rfl (by kernel_rfl) (by kernel_rfl) (by kernel_rfl) (by kernel_rfl) (fun _ _ _ h => h) (Or.inl ⟨by rfl, ?_⟩) hS ?_
  rotate_left
  · intro w0 hs; subst hs; go_simp; try (with_reducible rfl)
  try simp only [Act.put, List.setIfInBounds_toArray, List.set_cons_zero, List.set_cons_succ]
  refine wpAnyL_one (i := 8) (oi := ⟨_, _, _, _, _, _⟩) rfl (by kernel_rfl) (fun K hK => ?_)
  rw [if_pos (by rfl)]
  clear hS
  go_simp
  refine hK.out _ _ (.inl rfl) ?_
  clear hK
  try simp only [Act.put, List.setIfInBounds_toArray, List.set_cons_zero, List.set_cons_succ]
  refine wpAnyL_done (by kernel_rfl) ?_ _
  have B7 : Blk ((W6.setCell ⟨vb, 3, none⟩ (.int .u64 (lv (rol (rol d 16 ^^^ (c + d)) 21 ^^^ (rol (a + b) 32 + (rol d 16 ^^^ (c + d))))))).drew) vb (q64 (rol (a + b) 32 + (rol d 16 ^^^ (c + d))) (rol b 13 ^^^ (a + b)) ((c + d) + (rol b 13 ^^^ (a + b))) (rol (rol d 16 ^^^ (c + d)) 21 ^^^ (rol (a + b) 32 + (rol d 16 ^^^ (c + d))))) 138 := (HB6.out.set 3 _).drew
  have K7 := (HK6.out.set (p := ⟨vb, 3, none⟩) (.inl rfl) (.int .u64 (lv (rol (rol d 16 ^^^ (c + d)) 21 ^^^ (rol (a + b) 32 + (rol d 16 ^^^ (c + d))))))).drew
  have HB7 := Lib.hid B7
  have HK7 := Lib.hid K7
  clear B7 K7
  go_upto_region 9 with fail
  generalize (W6.setCell ⟨vb, 3, none⟩ (.int .u64 (lv (rol (rol d 16 ^^^ (c + d)) 21 ^^^ (rol (a + b) 32 + (rol d 16 ^^^ (c + d))))))).drew = W7 at HB7 HK7 ⊢
  clear cc ff
  have cc := HB7.out.cell
  have ff := HB7.out.free
  refine wp_region_last 8 (fun w' => w' = W7.drew) (by kernel_rfl) rfl (fun hS => ?_)
  refine wpAnyL_take (i := 0) (oi := ⟨_, _, _, _, _, _⟩) (v := ?_) rfl (by kernel_rfl) (by kernel_rfl) (by kernel_rfl) (by kernel_rfl) (fun _ _ _ h => h) (Or.inl ⟨by rfl, ?_⟩) hS ?_
  rotate_left
  · intro w0 hs; subst hs; go_simp; try (with_reducible rfl)
  try simp only [Act.put, List.setIfInBounds_toArray, List.set_cons_zero, List.set_cons_succ]
  refine wpAnyL_take (i := 1) (oi := ⟨_, _, _, _, _, _⟩) (v := ?_) rfl (by kernel_rfl) (by kernel_rfl) (by kernel_rfl) (by kernel_rfl) (fun _ _ _ h => h) (Or.inl ⟨by rfl, ?_⟩) hS ?_
  rotate_left
  · intro w0 hs; subst hs; go_simp; try (with_reducible rfl)
  try simp only [Act.put, List.setIfInBounds_toArray, List.set_cons_zero, List.set_cons_succ]
  refine wpAnyL_take (i := 2) (oi := ⟨_, _, _, _, _, _⟩) (v := ?_) rfl (by kernel_rfl) (by kernel_rfl) (by kernel_rfl) (by kernel_rfl) (fun _ _ _ h => h) (Or.inl ⟨by rfl, ?_⟩) hS ?_
  rotate_left
  · intro w0 hs; subst hs; go_simp; try (with_reducible rfl)
  try simp only [Act.put, List.setIfInBounds_toArray, List.set_cons_zero, List.set_cons_succ]
  refine wpAnyL_take (i := 4) (oi := ⟨_, _, _, _, _, _⟩) (v := ?_) rfl (by kernel_rfl) (by kernel_rfl) (by kernel_rfl) (by kernel_rfl) (fun _ _ _ h => h) (Or.inl ⟨by rfl, ?_⟩) hS ?_
  rotate_left
  · intro w0 hs; subst hs; go_simp; try (with_reducible rfl)
  try simp only [Act.put, List.setIfInBounds_toArray, List.set_cons_zero, List.set_cons_succ]
  refine wpAnyL_take (i := 5) (oi := ⟨_, _, _, _, _, _⟩) (v := ?_) rfl (by kernel_rfl) (by kernel_rfl) (by kernel_rfl) (by kernel_rfl) (fun _ _ _ h => h) (Or.inl ⟨by rfl, ?_⟩) hS ?_
  rotate_left
  · intro w0 hs; subst hs; go_simp; try (with_reducible rfl)
  try simp only [Act.put, List.setIfInBounds_toArray, List.set_cons_zero, List.set_cons_succ]
  refine wpAnyL_one (i := 3) (oi := ⟨_, _, _, _, _, _⟩) rfl (by kernel_rfl) (fun K hK => ?_)
  rw [if_pos (by rfl)]
  go_step
  refine (rotl64 (rol b 13 ^^^ (a + b)) 17 (by decide) (by decide) _).mono ?_
  rintro e v1 ⟨rfl, rfl⟩
  simp only []
  have hS' := hS
  refine hK.out _ _ (.inr hS') ?_
  clear hS hK
  have hS := hS'; clear hS'
  try simp only [Act.put, List.setIfInBounds_toArray, List.set_cons_zero, List.set_cons_succ]
  refine wpAnyL_take (i := 6) (oi := ⟨_, _, _, _, _, _⟩) (v := ?_) rfl (by kernel_rfl) (by kernel_rfl) (by kernel_rfl) (by kernel_rfl) (fun _ _ _ h => h) (Or.inl ⟨by rfl, ?_⟩) hS ?_
  rotate_left
  · intro w0 hs; subst hs; go_simp; try (with_reducible rfl)
  try simp only [Act.put, List.setIfInBounds_toArray, List.set_cons_zero, List.set_cons_succ]
  refine wpAnyL_take (i := 7) (oi := ⟨_, _, _, _, _, _⟩) (v := ?_) rfl (by kernel_rfl) (by kernel_rfl) (by kernel_rfl) (by kernel_rfl) (fun _ _ _ h => h) (Or.inl ⟨by rfl, ?_⟩) hS ?_
  rotate_left
  · intro w0 hs; subst hs; go_simp; try (with_reducible rfl)
  try simp only [Act.put, List.setIfInBounds_toArray, List.set_cons_zero, List.set_cons_succ]
  refine wpAnyL_one (i := 8) (oi := ⟨_, _, _, _, _, _⟩) rfl (by kernel_rfl) (fun K hK => ?_)
  rw [if_pos (by rfl)]
  clear hS
  go_simp
  refine hK.out _ _ (.inl rfl) ?_
  clear hK
  try simp only [Act.put, List.setIfInBounds_toArray, List.set_cons_zero, List.set_cons_succ]
  refine wpAnyL_done (by kernel_rfl) ?_ _
  have B8 : Blk ((W7.setCell ⟨vb, 1, none⟩ (.int .u64 (lv (rol (rol b 13 ^^^ (a + b)) 17 ^^^ ((c + d) + (rol b 13 ^^^ (a + b))))))).drew) vb (q64 (rol (a + b) 32 + (rol d 16 ^^^ (c + d))) (rol (rol b 13 ^^^ (a + b)) 17 ^^^ ((c + d) + (rol b 13 ^^^ (a + b)))) ((c + d) + (rol b 13 ^^^ (a + b))) (rol (rol d 16 ^^^ (c + d)) 21 ^^^ (rol (a + b) 32 + (rol d 16 ^^^ (c + d))))) 138 := (HB7.out.set 1 _).drew
  have K8 := (HK7.out.set (p := ⟨vb, 1, none⟩) (.inl rfl) (.int .u64 (lv (rol (rol b 13 ^^^ (a + b)) 17 ^^^ ((c + d) + (rol b 13 ^^^ (a + b))))))).drew
  have HB8 := Lib.hid B8
  have HK8 := Lib.hid K8
  clear B8 K8
  go_upto_region 10 with fail
  generalize (W7.setCell ⟨vb, 1, none⟩ (.int .u64 (lv (rol (rol b 13 ^^^ (a + b)) 17 ^^^ ((c + d) + (rol b 13 ^^^ (a + b))))))).drew = W8 at HB8 HK8 ⊢
  clear cc ff
  have cc := HB8.out.cell
  have ff := HB8.out.free
  have PR := Lib.hid (rotl64 ((c + d) + (rol b 13 ^^^ (a + b))) 32 (by decide) (by decide) W8)
  go_wp2_with fail
  refine PR.out.mono ?_
  rintro e v ⟨rfl, hv⟩
  obtain rfl : W8 = v := hv
  have B9 : Blk ((W8.setCell ⟨vb, 2, none⟩ (.int .u64 (lv (rol ((c + d) + (rol b 13 ^^^ (a + b))) 32))))) vb (q64 (rol (a + b) 32 + (rol d 16 ^^^ (c + d))) (rol (rol b 13 ^^^ (a + b)) 17 ^^^ ((c + d) + (rol b 13 ^^^ (a + b)))) (rol ((c + d) + (rol b 13 ^^^ (a + b))) 32) (rol (rol d 16 ^^^ (c + d)) 21 ^^^ (rol (a + b) 32 + (rol d 16 ^^^ (c + d))))) 138 := (HB8.out.set 2 _)
  have K9 := (HK8.out.set (p := ⟨vb, 2, none⟩) (.inl rfl) (.int .u64 (lv (rol ((c + d) + (rol b 13 ^^^ (a + b))) 32))))
  have HB9 := Lib.hid B9
  have HK9 := Lib.hid K9
  clear B9 K9
  go_upto_region 11 with fail
  generalize (W8.setCell ⟨vb, 2, none⟩ (.int .u64 (lv (rol ((c + d) + (rol b 13 ^^^ (a + b))) 32)))) = W9 at HB9 HK9 ⊢
  clear cc ff
  obtain ⟨s, hs⟩ : ∃ s : Sip, s = sipRound ⟨a, b, c, d⟩ := ⟨_, rfl⟩
  have B : Blk W9 vb s.cells 138 := by rw [hs]; exact HB9.out
  have k2 : Keep (fun g => g = vb) W W9 := HK9.out
  have br := k2.blk HL.out.1.2.1 (by omega)
  have HS := Lib.hid hs
  have K2 := Lib.hid k2
  clear hs k2 ADD XOR
  go_wp2_with (first | (refine wpl_load rfl 138 (.tmp 1) rfl rfl B Tryd.underlying138 (sip_info s) ?_) | (refine wpl_store rfl 138 (.tmp 2) (.tmp 67) rfl rfl rfl br (sip_size s) (sip_info s) (sip_all s) ?_))
  have bf := br.setAll s.cells (sip_size s)
  have b1 := HL.out.1.2.2.trans (K2.out.below (B := vb) (by rw [HL.out.2]; omega) (fun k h => by rw [h]; exact Nat.le_refl _))
  have b2 := below_setCells (B := vb) (g := vb + 1) (by omega) s.cells.toList 0 W9 b1
  exact bodyPost_ret (v := .agg s.cells) (results_blk Tryd.results93 _ _ rfl bf Tryd.underlying138 (sip_info s)) rfl ⟨by rw [HS.out], by rw [hgw]; exact b2⟩
end Go.Proofs.YtgedpgdefafofaaDoor
end
