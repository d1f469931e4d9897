import Derived.Test.YtppcccocnmhbgaaFl15
import Derived.Deep.Slices
import Derived.Deep.Strs
import Derived.Test.YtppcccocnmhbgaaFl6
import Derived.Test.YtppcccocnmhbgaaFl11
import Derived.Test.YtppcccocnmhbgaaFl14
import Derived.Test.YtppcccocnmhbgaaFl10
section
/- An argument of slices of bytes, their lengths bounded by what they weigh. -/
namespace Go.Proofs.Ytppcccocnmhbgaa
open Go Go.ChangeShapes Go.WideShapes Go.ChangeAt Go.RowKit
set_option linter.unusedVariables false

/-- a slice of slices of bytes that came in -/
structure RowOf (w : World) (v : Value) (A : Option Addr) (C : Nat) (Z : List Int) : Prop where
  form : v = .slice A Z.length C
  bytes : Lib.BytesIn w A Z.length Z
  len : Z.length ≤ 140737488351232
  cap : Z.length ≤ C
  most : C ≤ 9223372036854775807
  none : A = none → C = 0
  range : ∀ y ∈ Z, 0 ≤ y ∧ y ≤ 255
  there : ∀ q, A = some q → 0 < Z.length → q.block < w.heap.size
def RowsIn (w : World) (a0 : Option Addr) (len : Nat) (A : Nat → Option Addr) (C : Nat → Nat) (Z : Nat → List Int) : Prop :=
  ∀ r, r < len → ∃ b o, a0 = some ⟨b, o, none⟩ ∧ w.cell? ⟨b, o + r, none⟩ = some (.slice (A r) (Z r).length (C r)) ∧ RowOf w (.slice (A r) (Z r).length (C r)) (A r) (C r) (Z r)
theorem RowOf.below {w w' : World} {v : Value} {A : Option Addr} {C : Nat} {Z : List Int} (h : RowOf w v A C Z) (hb : Below w.heap.size w w') : RowOf w' v A C Z :=
  ⟨h.form, bytes_keep h.bytes (Keep.of_below (X := fun _ => False) hb) (fun _ _ _ h => h), h.len, h.cap, h.most, h.none, h.range, fun q hq h0 => Nat.lt_of_lt_of_le (h.there q hq h0) hb.size⟩
theorem RowsIn.below {w w' : World} {a0 : Option Addr} {len : Nat} {A : Nat → Option Addr} {C : Nat → Nat} {Z : Nat → List Int} (h : RowsIn w a0 len A C Z) (hb : Below w.heap.size w w') : RowsIn w' a0 len A C Z := fun r hr => by
  obtain ⟨b, o, h1, h2, h3⟩ := h r hr
  exact ⟨b, o, h1, (hb.cell (p := ⟨b, o + r, none⟩) (cell_lt h2)).trans h2, h3.below hb⟩
theorem RowsIn.row {w : World} {a0 : Option Addr} {len : Nat} {A : Nat → Option Addr} {C : Nat → Nat} {Z : Nat → List Int} (h : RowsIn w a0 len A C Z) {r : Nat} (hr : r < len) : RowOf w (.slice (A r) (Z r).length (C r)) (A r) (C r) (Z r) := by
  obtain ⟨_, _, _, _, h3⟩ := h r hr
  exact h3
theorem RowsIn.less {w : World} {a0 : Option Addr} {len len' : Nat} {A : Nat → Option Addr} {C : Nat → Nat} {Z : Nat → List Int} (h : RowsIn w a0 len A C Z) (hl : len' ≤ len) : RowsIn w a0 len' A C Z := fun r hr => h r (Nat.lt_of_lt_of_le hr hl)
set_option maxRecDepth 100000
theorem weightsAll_mem {H : Type} {P : Program} {e : TypeId} : ∀ {l : List (DataW H)} {d : DataW H}, d ∈ l → ∀ n ∈ d.weights P e, n ∈ DataW.weightsAll P e l
  | d' :: r, d, hd, n, hn => by
    simp only [DataW.weightsAll, List.mem_append]
    rcases List.mem_cons.1 hd with rfl | h
    · exact Or.inl hn
    · exact Or.inr (weightsAll_mem h n hn)
theorem bytes_weight {H : Type} {e sp : List (DataW H)} : (e.length + sp.length) * 1 ∈ (DataW.slice e sp).weights Try.prog 26 := by
  rw [← bytesU]
  simp [DataW.weights, Try.underlying26]
/-- bytes among other data -/
theorem open_row {H : Type} {enc : TypeId × Value → H} {w : World} {c : Value} {d : DataW H} {p : List MemPlace} {n : Nat}
    (h : DataW.trod enc Try.prog w 0 (fun _ => true) true n 26 [c] = some (d, p)) (hw : ∀ m ∈ d.weights Try.prog 26, m ≤ reachBytes) :
    ∃ A C Z, RowOf w c A C Z := by
  rcases open_ints Try.underlying26 Try.underlying5 (by kernel_rfl) h with ⟨hcs, _⟩ | ⟨a', len', cap', zs, hcs, hlc, hl', hm', hz, hy', hcell, hwz⟩
  · simp at hcs
    subst hcs
    exact ⟨none, 0, [], rfl, Lib.BytesIn.nil _ _ _, by decide, by decide, by decide, fun _ => rfl, fun y hy => (by simp at hy), fun q hq => (by cases hq)⟩
  · simp at hcs
    subst hcs
    simp only [if_true] at hz
    have hln : (zs.take len').length = len' := by simp; omega
    have hcells : ∀ i, i < len' → w.cell? (a'.add i) = some (.int .u8 ((zs.take len').getD i 0)) := fun i hi => by
      rw [hcell i (by omega)]
      congr 2
      simp [List.getD, hi]
    have hcap : cap' ≤ 140737488351232 := by
      simp only [Prod.mk.injEq] at hy'
      have := hw _ (by rw [hy'.1]; exact bytes_weight)
      simp [lits, reachBytes] at this
      omega
    refine ⟨some a', cap', zs.take len', by rw [hln], ?_, by rw [hln]; omega, by rw [hln]; omega, by omega, fun hq => (by cases hq), fun x hx => ?_, fun q hq h0 => ?_⟩
    · refine Lib.BytesIn.of_cells fun i hi => ?_
      rw [hln] at hi
      exact hcells i hi
    · exact bounds_u8 (hwz x (List.mem_of_mem_take hx))
    · cases hq
      rw [hln] at h0
      have := cell_lt (hcells 0 h0)
      have hb : (a'.add 0).block = a'.block := by unfold Addr.add; split <;> rfl
      rw [hb] at this; exact this
theorem open_browsS {H : Type} {enc : TypeId × Value → H} {w : World} {b0 : Nat} {r : Reach} {v : Value} {d : DataW H} {p : List MemPlace} {ts : List TypeId} {ds : List (DataW H)} {jj : Nat}
    (hv : Value.okWide Try.prog w r b0 24 v) (h : DataW.Trod enc Try.prog w 0 (fun _ => true) true 24 v d p)
    (hsz : (DataW.weightsEach Try.prog ts ds).all (· ≤ reachBytes) = true) (ht : ts[jj]? = some 24) (hd : ds[jj]? = some d) :
    ∃ a0 len cap A C Z, v = .slice a0 len cap ∧ len ≤ 9223372036854775807 ∧ len ≤ cap ∧ cap ≤ 9223372036854775807 ∧ RowsIn w a0 len A C Z := by
  obtain ⟨a0, len, cap, rfl⟩ := okWide_slice Try.underlying24 hv
  obtain ⟨fuel, hf⟩ := h
  rcases Go.Deep.open_slice Try.underlying24 hf with ⟨hcs, _⟩ | ⟨a, len', cap', m, n, D, Pl, hcs, hlc, hl, hm, hmm, hx, hi⟩
  · simp [Value.cells] at hcs
    obtain ⟨rfl, rfl, rfl⟩ := hcs
    exact ⟨_, _, _, fun _ => none, fun _ => 0, fun _ => [], rfl, by decide, by decide, by decide, fun r hr => by omega⟩
  · simp [Value.cells] at hcs
    obtain ⟨rfl, rfl, rfl⟩ := hcs
    simp only [if_true] at hmm
    simp only [Prod.mk.injEq] at hx
    obtain ⟨rfl, _⟩ := hx
    rw [show Try.prog.cellsOf 26 = 1 from by kernel_rfl] at hi
    have each : ∀ i, i < len → ∃ y : Option Addr × Nat × List Int, w.cell? (a.add i) = some (.slice y.1 y.2.2.length y.2.1) ∧ RowOf w (.slice y.1 y.2.2.length y.2.1) y.1 y.2.1 y.2.2 := by
      intro i hlt
      obtain ⟨cs', hc, ht'⟩ := hi i (by omega)
      obtain ⟨_, hcl', hat⟩ := World.cells?_some hc
      obtain ⟨c0, rfl⟩ : ∃ c0, cs' = [c0] := by
        match cs', hcl' with
        | [c0], _ => exact ⟨c0, rfl⟩
      have a0 := hat 0 (by omega)
      rw [Go.Deep.add_add] at a0
      simp at a0
      have hmem : D i ∈ (List.range len).map D := List.mem_map.2 ⟨i, List.mem_range.2 hlt, rfl⟩
      obtain ⟨A, C, Z, hR⟩ := open_row ht' (fun k hk => by
        have hw := of_decide_eq_true (List.all_eq_true.1 hsz _ (DataW.weights_mem_each ht hd k (by
          simp only [DataW.weights, Try.underlying24, List.mem_cons, List.mem_append]
          exact Or.inr (Or.inl (weightsAll_mem hmem k hk)))))
        exact hw)
      have hf := hR.form
      subst hf
      exact ⟨(A, C, Z), a0, hR⟩
    obtain ⟨y, hy⟩ := Go.Deep.choose_lt each
    obtain ⟨b, o, s⟩ := a
    refine ⟨some ⟨b, o, s⟩, len, cap, fun i => (y i).1, fun i => (y i).2.1, fun i => (y i).2.2, rfl, by unfold maxLen at hm; omega, by omega, by unfold maxLen at hm; omega, fun i hlt => ?_⟩
    obtain ⟨r0, r1⟩ := hy i hlt
    obtain rfl : s = none := by simpa [Addr.add] using World.cell?_spot (hy 0 (by omega)).1
    rw [Addr.add_lit] at r0
    exact ⟨b, o, rfl, r0, r1⟩
end Go.Proofs.Ytppcccocnmhbgaa
end

section
/- The document's Number. -/
namespace Go.Proofs.Ytppcccocnmhbgaa
open Go Go.RowKit
set_option linter.unusedSimpArgs false
set_option linter.unusedVariables false
set_option maxRecDepth 100000

set_option maxHeartbeats 1600000 in
theorem rnum (ys : List Int) (q : Option Addr) (c : Nat) (w : World) (hy : Lib.BytesIn w q ys.length ys) (hr : ∀ y ∈ ys, 0 ≤ y ∧ y ≤ 255) (h8 : ys.length ≤ 8) :
    Calls Try.prog 71 #[.slice q ys.length c] w fun e w' => e = .returned (.int .u64 ((leN ys : Nat) : Int)) ∧ w = w' := by
  have HY := Lib.hid hy
  have HR := Lib.hid hr
  have H8 := Lib.hid h8
  obtain ⟨N, hN⟩ : ∃ N, N = ys.length := ⟨_, rfl⟩
  rw [← hN] at HY h8 ⊢
  have HN := Lib.hid hN
  clear hy hr hN
  go_enter Try.func71, Try.ntmps71
  go_wp2
  go_loopg [3, 8] N (fun gh s i wx => ∃ k t : Nat, k ≤ N ∧ s = .int .u64 (t : Int) ∧ i = .int .i64 (k : Int) ∧ gh = N - k ∧ Hid (t = leN (ys.take k)) ∧ wx = w)
  case atStart => exact ⟨0, 0, Nat.zero_le _, rfl, rfl, rfl, by rw [List.take_zero]; rfl, rfl⟩
  case round =>
    obtain ⟨k, t, hk, rfl, rfl, hg, HT, hwx⟩ := hrel
    obtain rfl : w = wr := hwx.symm
    have HGK := Lib.hid hg
    clear hg
    by_cases hlt : k < N
    · obtain ⟨b, o, rfl, hc⟩ := HY.out.at (by omega)
      have cb := hc k hlt
      have hst := le_step ys HR.out k (by rw [← HN.out]; exact hlt) H8.out
      have hx := getD_rng HR.out k
      generalize ys.getD k 0 = x at *
      rw [← HT.out] at hst
      generalize hu : leN (ys.take (k + 1)) = u at *
      have HU := Lib.hid hu
      obtain ⟨hx0, hx1⟩ := hx
      have a2 : IntKind.i64.wrap (8 * (k : Int)) = 8 * (k : Int) := by rw [IntKind.wrap_i64]; omega
      have hux : IntKind.u64.wrap x = x := IntWalk.u64_in _ (by omega)
      clear hc hu
      go_wp2
      go_roundg (N - (k + 1))
      case measure => rw [HGK.out]; omega
      case rel => exact ⟨k + 1, u, hlt, rfl, rfl, rfl, HU.out.symm, rfl⟩
    · obtain rfl : k = N := by omega
      go_wp2
      go_ret
      refine ⟨congrArg (fun n : Nat => Ending.returned (.int .u64 (n : Int))) ?_, rfl⟩
      rw [HT.out, List.take_of_length_le (by rw [HN.out]; exact Nat.le_refl _)]
end Go.Proofs.Ytppcccocnmhbgaa
end

section
/- An item's number, both sides. -/
namespace Go.Proofs.Ytppcccocnmhbgaa
open Go Go.RowKit
set_option linter.unusedSimpArgs false
set_option linter.unusedVariables false
set_option maxRecDepth 100000

/-- an item's number, of k, under a hash -/
def itemV (n k : Nat) (ys : List Int) : Nat := (sipS (bw (n % 18446744073709551616)) (bw (n / 18446744073709551616 % 18446744073709551616)) ys).toNat * (k * 784931) / 18446744073709551616
theorem itemV_lt (n k : Nat) (ys : List Int) : itemV n k ys ≤ k * 784931 := by
  unfold itemV
  have := (sipS (bw (n % 18446744073709551616)) (bw (n / 18446744073709551616 % 18446744073709551616)) ys).isLt
  exact Nat.div_le_of_le_mul (Nat.mul_le_mul_right _ (by omega))
theorem itemV_lt' (n k : Nat) (ys : List Int) (hk : 0 < k) : itemV n k ys < k * 784931 := by
  unfold itemV
  have := (sipS (bw (n % 18446744073709551616)) (bw (n / 18446744073709551616 % 18446744073709551616)) ys).isLt
  exact Nat.div_lt_of_lt_mul (Nat.mul_lt_mul_of_pos_right (by omega) (by omega))
set_option maxHeartbeats 1600000 in
theorem pval (n k a b c : Nat) (q : Option Addr) (cap : Nat) (ys : List Int) (w : World) (hk : k ≤ 20000) (hR : RowOf w (.slice q ys.length cap) q cap ys)
    (h0 : w.cell? ⟨a, 0, none⟩ = some (.int .u64 ((n % 2 ^ 64 : Nat) : Int))) (h1 : w.cell? ⟨b, 0, none⟩ = some (.int .u64 ((n / 2 ^ 64 % 2 ^ 64 : Nat) : Int))) (h2 : w.cell? ⟨c, 0, none⟩ = some (.int .i64 (k : Int))) :
    Calls Try.prog 63 #[.slice q ys.length cap, .pointer (some ⟨a, 0, none⟩), .pointer (some ⟨b, 0, none⟩), .pointer (some ⟨c, 0, none⟩)] w fun e w' => e = .returned (.int .u64 ((itemV n k ys : Nat) : Int)) ∧ Below w.heap.size w w' := by
  have hm0 : n % 18446744073709551616 < 18446744073709551616 := Nat.mod_lt _ (by decide)
  have hm1 : n / 18446744073709551616 % 18446744073709551616 < 18446744073709551616 := Nat.mod_lt _ (by decide)
  have PS := fun (wx : World) (hb : Below w.heap.size w wx) => psip (bw (n % 18446744073709551616)) (bw (n / 18446744073709551616 % 18446744073709551616)) ys q cap wx (hR.below hb).bytes hR.range hR.cap (by have := hR.most; omega) (by have := hR.len; omega)
  rw [lv_bw _ hm0, lv_bw _ hm1] at PS
  replace PS := Lib.hid PS
  have hkw : IntKind.u64.wrap ((k : Int) * 784931) = ((k * 784931 : Nat) : Int) := by rw [IntKind.wrap_u64]; omega
  have hku : IntKind.u64.wrap (k : Int) = (k : Int) := IntWalk.u64_in _ (by omega)
  have PC := fun (wx : World) => pscale (sipS (bw (n % 18446744073709551616)) (bw (n / 18446744073709551616 % 18446744073709551616)) ys).toNat (k * 784931) (BitVec.isLt _) (by omega) wx
  replace PC := Lib.hid (show ∀ wx : World, Calls Try.prog 64 #[.int .u64 (lv (sipS (bw (n % 18446744073709551616)) (bw (n / 18446744073709551616 % 18446744073709551616)) ys)), .int .u64 ((k * 784931 : Nat) : Int)] wx fun e w' => e = .returned (.int .u64 ((itemV n k ys : Nat) : Int)) ∧ w' = wx from PC)
  have e0 : w.cell? ⟨a, 0, none⟩ = some (.int .u64 ((n % 18446744073709551616 : Nat) : Int)) := h0
  have e1 : w.cell? ⟨b, 0, none⟩ = some (.int .u64 ((n / 18446744073709551616 % 18446744073709551616 : Nat) : Int)) := h1
  have HC := Lib.hid (And.intro (cell_lt e0) (And.intro (cell_lt e1) (cell_lt h2)))
  clear h0 h1 hR
  generalize itemV n k ys = V at *
  generalize sipS (bw (n % 18446744073709551616)) (bw (n / 18446744073709551616 % 18446744073709551616)) ys = SS at *
  generalize n % 18446744073709551616 = m0 at *
  generalize n / 18446744073709551616 % 18446744073709551616 = m1 at *
  generalize k * 784931 = km at *
  go_enter Try.func63, Try.ntmps63
  go_upto_region 1 with fail
  refine wp_region_held_drew (S := fun w' => Below w.heap.size w w') (by kernel_rfl) ((Below.refl _ _).drew) (fun hS => ?_)
  refine wpAnyH_take (i := 0) (oi := ⟨_, _, _, _, _, _⟩) (v := ?_) rfl (by kernel_rfl) (by kernel_rfl) (by kernel_rfl) (fun _ _ _ h => h) (Or.inl ⟨by rfl, ?_⟩) hS ?_
  rotate_left
  · intro w0 hs; have s0 := (hs.cell (p := ⟨a, 0, none⟩) HC.out.1).trans e0; have s1 := (hs.cell (p := ⟨b, 0, none⟩) HC.out.2.1).trans e1; have s2 := (hs.cell (p := ⟨c, 0, none⟩) HC.out.2.2).trans h2; clear hs; go_simp; try (with_reducible rfl)
  try simp only [Act.put, List.setIfInBounds_toArray, List.set_cons_zero, List.set_cons_succ]
  refine wpAnyH_take (i := 1) (oi := ⟨_, _, _, _, _, _⟩) (v := ?_) rfl (by kernel_rfl) (by kernel_rfl) (by kernel_rfl) (fun _ _ _ h => h) (Or.inl ⟨by rfl, ?_⟩) hS ?_
  rotate_left
  · intro w0 hs; have s0 := (hs.cell (p := ⟨a, 0, none⟩) HC.out.1).trans e0; have s1 := (hs.cell (p := ⟨b, 0, none⟩) HC.out.2.1).trans e1; have s2 := (hs.cell (p := ⟨c, 0, none⟩) HC.out.2.2).trans h2; clear hs; go_simp; try (with_reducible rfl)
  try simp only [Act.put, List.setIfInBounds_toArray, List.set_cons_zero, List.set_cons_succ]
  refine wpAnyH_take (i := 2) (oi := ⟨_, _, _, _, _, _⟩) (v := ?_) rfl (by kernel_rfl) (by kernel_rfl) (by kernel_rfl) (fun _ _ _ h => h) (Or.inl ⟨by rfl, ?_⟩) hS ?_
  rotate_left
  · intro w0 hs; have s0 := (hs.cell (p := ⟨a, 0, none⟩) HC.out.1).trans e0; have s1 := (hs.cell (p := ⟨b, 0, none⟩) HC.out.2.1).trans e1; have s2 := (hs.cell (p := ⟨c, 0, none⟩) HC.out.2.2).trans h2; clear hs; go_simp; try (with_reducible rfl)
  try simp only [Act.put, List.setIfInBounds_toArray, List.set_cons_zero, List.set_cons_succ]
  refine wpAnyH_take (i := 4) (oi := ⟨_, _, _, _, _, _⟩) (v := ?_) rfl (by kernel_rfl) (by kernel_rfl) (by kernel_rfl) (fun _ _ _ h => h) (Or.inl ⟨by rfl, ?_⟩) hS ?_
  rotate_left
  · intro w0 hs; have s0 := (hs.cell (p := ⟨a, 0, none⟩) HC.out.1).trans e0; have s1 := (hs.cell (p := ⟨b, 0, none⟩) HC.out.2.1).trans e1; have s2 := (hs.cell (p := ⟨c, 0, none⟩) HC.out.2.2).trans h2; clear hs; go_simp; try (with_reducible rfl)
  try simp only [Act.put, List.setIfInBounds_toArray, List.set_cons_zero, List.set_cons_succ]
  refine wpAnyH_take (i := 5) (oi := ⟨_, _, _, _, _, _⟩) (v := ?_) rfl (by kernel_rfl) (by kernel_rfl) (by kernel_rfl) (fun _ _ _ h => h) (Or.inl ⟨by rfl, ?_⟩) hS ?_
  rotate_left
  · intro w0 hs; have s0 := (hs.cell (p := ⟨a, 0, none⟩) HC.out.1).trans e0; have s1 := (hs.cell (p := ⟨b, 0, none⟩) HC.out.2.1).trans e1; have s2 := (hs.cell (p := ⟨c, 0, none⟩) HC.out.2.2).trans h2; clear hs; go_simp; try (with_reducible rfl)
  try simp only [Act.put, List.setIfInBounds_toArray, List.set_cons_zero, List.set_cons_succ]
  refine wpAnyH_take (i := 6) (oi := ⟨_, _, _, _, _, _⟩) (v := ?_) rfl (by kernel_rfl) (by kernel_rfl) (by kernel_rfl) (fun _ _ _ h => h) (Or.inl ⟨by rfl, ?_⟩) hS ?_
  rotate_left
  · intro w0 hs; have s0 := (hs.cell (p := ⟨a, 0, none⟩) HC.out.1).trans e0; have s1 := (hs.cell (p := ⟨b, 0, none⟩) HC.out.2.1).trans e1; have s2 := (hs.cell (p := ⟨c, 0, none⟩) HC.out.2.2).trans h2; clear hs; go_simp; try (with_reducible rfl)
  try simp only [Act.put, List.setIfInBounds_toArray, List.set_cons_zero, List.set_cons_succ]
  refine wpAnyH_ready (rs := [3]) (by kernel_rfl) (by simp) ?_
  refine AllReadyH.cons (o := ⟨_, _, _, _, _, _⟩) rfl (fun K hK => ?_) AllReadyH.nil
  rw [if_pos (by rfl)]
  go_step
  refine (PS.out _ hS).mono ?_
  rintro e v1 ⟨rfl, hv1⟩
  simp only []
  refine hK.out _ _ (hS.trans (hv1.mono hS.size)) (fun hS' => ?_)
  clear hS hK
  have hS := hS'; clear hS'
  try simp only [Act.put, List.setIfInBounds_toArray, List.set_cons_zero, List.set_cons_succ]
  refine wpAnyH_ready (rs := [7]) (by kernel_rfl) (by simp) ?_
  refine AllReadyH.cons (o := ⟨_, _, _, _, _, _⟩) rfl (fun K hK => ?_) AllReadyH.nil
  rw [if_pos (by rfl)]
  go_step
  refine (PC.out _).mono ?_
  rintro e v2 ⟨rfl, rfl⟩
  simp only []
  refine hK.out _ _ hS (fun hS' => ?_)
  clear hS hK
  have hS := hS'; clear hS'
  try simp only [Act.put, List.setIfInBounds_toArray, List.set_cons_zero, List.set_cons_succ]
  refine wpAnyH_take (i := 8) (oi := ⟨_, _, _, _, _, _⟩) (v := ?_) rfl (by kernel_rfl) (by kernel_rfl) (by kernel_rfl) (fun _ _ _ h => h) (Or.inl ⟨by rfl, ?_⟩) hS ?_
  rotate_left
  · intro w0 hs; have s0 := (hs.cell (p := ⟨a, 0, none⟩) HC.out.1).trans e0; have s1 := (hs.cell (p := ⟨b, 0, none⟩) HC.out.2.1).trans e1; have s2 := (hs.cell (p := ⟨c, 0, none⟩) HC.out.2.2).trans h2; clear hs; go_simp; try (with_reducible rfl)
  try simp only [Act.put, List.setIfInBounds_toArray, List.set_cons_zero, List.set_cons_succ]
  refine wpAnyH_done (by kernel_rfl) ?_ _
  have HS := Lib.hid hS
  clear hS
  go_wp2
  go_ret
  exact ⟨rfl, HS.out⟩
theorem rnum_of {w : World} {g n : Nat} {t : TypeId} (h : Blk w g (hcs n) t) (a c : Nat) (hk : a + 8 ≤ 32) : Calls Try.prog 71 #[.slice (some ⟨g, a, none⟩) 8 c] w fun e w' => e = .returned (.int .u64 ((n / 2 ^ (8 * a) % 2 ^ 64 : Nat) : Int)) ∧ w = w' := by
  have := rnum _ (some ⟨g, a, none⟩) c w (hbytes_sub h a 8 hk) (fun y hy => by
    obtain ⟨j, _, rfl⟩ := List.mem_map.1 hy
    have := byt_range n (a + j); omega) (by simp)
  rw [leN_bytes, show ((List.range 8).map fun j => byt n (a + j)).length = 8 from by simp] at this
  exact this
set_option maxHeartbeats 1600000 in
theorem rval (n k : Nat) (q : Option Addr) (cap : Nat) (ys : List Int) (w : World) (hk : k ≤ 20000) (hR : RowOf w (.slice q ys.length cap) q cap ys) :
    Calls Try.prog 39 #[hv n, .slice q ys.length cap, .int .i64 (k : Int)] w fun e w' => e = .returned (.int .u64 ((itemV n k ys : Nat) : Int)) ∧ Below w.heap.size w w' := by
  have hm0 : n % 18446744073709551616 < 18446744073709551616 := Nat.mod_lt _ (by decide)
  have hm1 : n / 18446744073709551616 % 18446744073709551616 < 18446744073709551616 := Nat.mod_lt _ (by decide)
  have PS := fun (wx : World) (hb : Below w.heap.size w wx) => rsip (bw (n % 18446744073709551616)) (bw (n / 18446744073709551616 % 18446744073709551616)) ys q cap wx (hR.below hb).bytes hR.range (by have := hR.len; omega)
  rw [lv_bw _ hm0, lv_bw _ hm1] at PS
  replace PS := Lib.hid PS
  have hkw : IntKind.u64.wrap ((k : Int) * 784931) = ((k * 784931 : Nat) : Int) := by rw [IntKind.wrap_u64]; omega
  have hku : IntKind.u64.wrap (k : Int) = (k : Int) := IntWalk.u64_in _ (by omega)
  have PC := fun (wx : World) => rscale (sipS (bw (n % 18446744073709551616)) (bw (n / 18446744073709551616 % 18446744073709551616)) ys).toNat (k * 784931) (BitVec.isLt _) (by omega) wx
  replace PC := Lib.hid (show ∀ wx : World, Calls Try.prog 72 #[.int .u64 (lv (sipS (bw (n % 18446744073709551616)) (bw (n / 18446744073709551616 % 18446744073709551616)) ys)), .int .u64 ((k * 784931 : Nat) : Int)] wx fun e w' => e = .returned (.int .u64 ((itemV n k ys : Nat) : Int)) ∧ w' = wx from PC)
  have BN := Lib.hid (Blk.new w (hcs n) 23)
  have KN := Lib.hid ((Below.refl w.heap.size w).alloc (Nat.le_refl _) (.cells (hcs n) 23))
  have P0 := Lib.hid (fun w' (hS : Blk w' w.heap.size (hcs n) 23) => rnum_of hS 0 32 (by decide))
  have P1 := Lib.hid (fun w' (hS : Blk w' w.heap.size (hcs n) 23) => rnum_of hS 8 24 (by decide))
  rw [show n / 2 ^ (8 * 0) % 2 ^ 64 = n % 18446744073709551616 from by rw [Nat.mul_zero, Nat.pow_zero, Nat.div_one]] at P0
  rw [show n / 2 ^ (8 * 8) % 2 ^ 64 = n / 18446744073709551616 % 18446744073709551616 from rfl] at P1
  clear hR
  generalize itemV n k ys = V at *
  generalize sipS (bw (n % 18446744073709551616)) (bw (n / 18446744073709551616 % 18446744073709551616)) ys = SS at *
  generalize n % 18446744073709551616 = m0 at *
  generalize n / 18446744073709551616 % 18446744073709551616 = m1 at *
  generalize k * 784931 = km at *
  go_enter Try.func39, Try.ntmps39
  go_upto_region 1 with fail
  generalize w.alloc (.cells (hcs n) 23) = W at *
  generalize hgw : w.heap.size = g at *
  refine wp_region_held_drew (S := fun w' => w' = W.drew) (by kernel_rfl) rfl (fun hS => ?_)
  refine wpAnyH_take (i := 0) (oi := ⟨_, _, _, _, _, _⟩) (v := ?_) rfl (by kernel_rfl) (by kernel_rfl) (by kernel_rfl) (fun _ _ _ h => h) (Or.inl ⟨by rfl, ?_⟩) hS ?_
  rotate_left
  · intro w0 hs; subst hs; go_simp; try (with_reducible rfl)
  try simp only [Act.put, List.setIfInBounds_toArray, List.set_cons_zero, List.set_cons_succ]
  refine wpAnyH_take (i := 2) (oi := ⟨_, _, _, _, _, _⟩) (v := ?_) rfl (by kernel_rfl) (by kernel_rfl) (by kernel_rfl) (fun _ _ _ h => h) (Or.inl ⟨by rfl, ?_⟩) hS ?_
  rotate_left
  · intro w0 hs; subst hs; go_simp; try (with_reducible rfl)
  try simp only [Act.put, List.setIfInBounds_toArray, List.set_cons_zero, List.set_cons_succ]
  refine wpAnyH_ready (rs := [1]) (by kernel_rfl) (by simp) ?_
  refine AllReadyH.cons (o := ⟨_, _, _, _, _, _⟩) rfl (fun K hK => ?_) AllReadyH.nil
  rw [if_pos (by rfl)]
  go_step
  refine (P0.out _ BN.out.drew).mono ?_
  rintro e v1 ⟨rfl, rfl⟩
  simp only []
  refine hK.out _ _ rfl (fun hS' => ?_)
  clear hS hK
  have hS := hS'; clear hS'
  try simp only [Act.put, List.setIfInBounds_toArray, List.set_cons_zero, List.set_cons_succ]
  refine wpAnyH_ready (rs := [3]) (by kernel_rfl) (by simp) ?_
  refine AllReadyH.cons (o := ⟨_, _, _, _, _, _⟩) rfl (fun K hK => ?_) AllReadyH.nil
  rw [if_pos (by rfl)]
  go_step
  refine (P1.out _ BN.out.drew).mono ?_
  rintro e v2 ⟨rfl, rfl⟩
  simp only []
  refine hK.out _ _ rfl (fun hS' => ?_)
  clear hS hK
  have hS := hS'; clear hS'
  try simp only [Act.put, List.setIfInBounds_toArray, List.set_cons_zero, List.set_cons_succ]
  refine wpAnyH_take (i := 4) (oi := ⟨_, _, _, _, _, _⟩) (v := ?_) rfl (by kernel_rfl) (by kernel_rfl) (by kernel_rfl) (fun _ _ _ h => h) (Or.inl ⟨by rfl, ?_⟩) hS ?_
  rotate_left
  · intro w0 hs; subst hs; go_simp; try (with_reducible rfl)
  try simp only [Act.put, List.setIfInBounds_toArray, List.set_cons_zero, List.set_cons_succ]
  refine wpAnyH_take (i := 5) (oi := ⟨_, _, _, _, _, _⟩) (v := ?_) rfl (by kernel_rfl) (by kernel_rfl) (by kernel_rfl) (fun _ _ _ h => h) (Or.inl ⟨by rfl, ?_⟩) hS ?_
  rotate_left
  · intro w0 hs; subst hs; go_simp; try (with_reducible rfl)
  try simp only [Act.put, List.setIfInBounds_toArray, List.set_cons_zero, List.set_cons_succ]
  refine wpAnyH_done (by kernel_rfl) ?_ _
  clear hS
  have KD := KN.out.drew
  have PS2 := Lib.hid (PS.out _ (by rw [← hgw] at KD ⊢; exact KD))
  go_wp2_with fail
  refine PS2.out.mono ?_
  rintro e w3 ⟨rfl, hb3⟩
  have HF := Lib.hid (KD.trans (hb3.mono (by rw [← hgw]; exact KD.size)))
  have PC2 := Lib.hid (PC.out w3)
  clear hb3
  go_wp2_with fail
  refine PC2.out.mono ?_
  rintro e w4 ⟨rfl, rfl⟩
  go_wp2
  go_ret
  exact ⟨rfl, by rw [hgw]; exact HF.out⟩
end Go.Proofs.Ytppcccocnmhbgaa
end

section
/- Counts read: Decode, both sides. -/
namespace Go.Proofs.Ytppcccocnmhbgaa
open Go Go.RowKit
set_option linter.unusedSimpArgs false
set_option linter.unusedVariables false
set_option maxRecDepth 100000

theorem pcut (bs : List Int) (q : Option Addr) (c : Nat) (w : World) (hy : Lib.BytesIn w q bs.length bs) (hr : ∀ y ∈ bs, 0 ≤ y ∧ y ≤ 255) (hc : bs.length ≤ c) (hcm : c ≤ 9223372036854775807) (hl47 : bs.length ≤ 140737488355328) :
    Calls Try.prog 81 #[.slice q bs.length c] w (CutPost bs w) := by
  cases bs with
  | nil => exact pcut_nil q c w
  | cons b r =>
    obtain ⟨pb, po, rfl, hcl⟩ := hy.at (by simp)
    rw [List.length_cons] at hcl hc hl47 ⊢
    by_cases h0 : decW b = 0
    · exact pcut0 b r pb po c w hcl (hr b (List.mem_cons_self ..)) hc hcm hl47 h0
    · by_cases h1 : r.length < decW b
      · exact pcut_short b r _ pb po c w hcl hc hcm hl47 rfl (by omega) h1
      · exact pcutW b r _ pb po c w hcl (fun y hy => hr y (List.mem_cons_of_mem _ hy)) hc hcm hl47 rfl (by omega) (by omega)
/-- what 'Decode' answers -/
def DecPost (bs : List Int) (w : World) (e : Ending) (w' : World) : Prop :=
  ∃ (x : Int) (v : Value), e = .returned (.tuple #[.int .u64 x, v, .int .i64 (decE bs)]) ∧ Below w.heap.size w w' ∧ (decE bs = 0 → x = (decN bs : Int) ∧ ∃ o, Row w' 5 v (decR bs) o ∧ ∀ g, o = some g → w.heap.size ≤ g) ∧ (decE bs ≠ 0 → x = 0 ∧ v = .slice none 0 0)
theorem pdecode (bs : List Int) (q : Option Addr) (c : Nat) (w : World) (hy : Lib.BytesIn w q bs.length bs) (hr : ∀ y ∈ bs, 0 ≤ y ∧ y ≤ 255) (hc : bs.length ≤ c) (hcm : c ≤ 9223372036854775807) (hl47 : bs.length ≤ 140737488355328) :
    Calls Try.prog 48 #[.slice q bs.length c] w (DecPost bs w) := by
  have PC := Lib.hid (pcut bs q c w hy hr hc hcm hl47)
  clear hy hr hc
  go_enter Try.func48, Try.ntmps48
  go_wp2_with fail
  refine PC.out.mono ?_
  rintro e w1 ⟨x, v, rfl, hb, h0, h1⟩
  by_cases hE : decE bs = 0
  · obtain ⟨hx, p, c2, rfl, hyr, hle, ⟨hcm2, hl2⟩, a, rfl⟩ := h0 hE
    have PQ := Lib.hid (Try.bytes_Clone_at a (decR bs).length c2 (decR bs) w1 rfl (by omega) (fun i hi => by
      obtain ⟨b, o2, e1, hcc⟩ := hyr.at (by omega)
      cases e1
      rw [Addr.add_lit]; exact hcc i hi))
    have HH := Lib.hid (And.intro hb (And.intro hE hx))
    clear hb h0 h1 hE hx hyr
    go_wp2_with fail
    refine PQ.out.mono ?_
    rintro e w2 ⟨v', rfl, hown, hne, hbel⟩
    obtain ⟨o', r1, r2, r3⟩ := Row.of_owns hown
    have HF := Lib.hid (And.intro r1 (And.intro r2 hbel))
    clear r1 r2 r3 hown hne hbel
    go_wp2
    exact bodyPost_ret (results_tmp3 Try.results48 _ _ _) rfl ⟨x, v', rfl, HH.out.1.trans (HF.out.2.2.mono HH.out.1.size), fun _ => ⟨HH.out.2.2, o', HF.out.1, fun g hg => Nat.le_trans HH.out.1.size (HF.out.2.1 g hg).1⟩, fun hn => absurd HH.out.2.1 hn⟩
  · obtain ⟨rfl, rfl⟩ := h1 hE
    have PQ := Lib.hid (Try.bytes_Clone_nil 0 0 w1)
    have HH := Lib.hid (And.intro hb hE)
    clear hb h0 h1 hE
    go_wp2_with fail
    refine PQ.out.mono ?_
    rintro e w2 ⟨rfl, rfl⟩
    go_wp2
    exact bodyPost_ret (results_tmp3 Try.results48 _ _ _) rfl ⟨0, _, rfl, HH.out.1, fun h => absurd h HH.out.2, fun _ => ⟨rfl, rfl⟩⟩
end Go.Proofs.Ytppcccocnmhbgaa
end
