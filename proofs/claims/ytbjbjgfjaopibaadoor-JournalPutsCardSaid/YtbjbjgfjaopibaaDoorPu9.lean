import Derived.Test.YtbjbjgfjaopibaaDoorPu8
import Derived.Test.YtbjbjgfjaopibaaDoorPu4
section
/- SHA-256, the program's: Sum. -/
namespace Go.Proofs.YtbjbjgfjaopibaaDoor
open Go Go.RowKit
set_option linter.unusedSimpArgs false
set_option linter.unusedVariables false
set_option maxRecDepth 100000

/-- SHA-256, as a number whose lowest byte is the first one -/
def shaN (bs : List Int) : Nat := hnum (fun j => ((hashByte (blocksS (padS bs) ((padS bs).length / 64)) j : Nat) : Int)) 32
/-- the cells of the tail, so many bytes of the length laid -/
def tlF (k n i j : Nat) : Int := if j = 0 then 128 else if k ≤ j ∧ j < k + i then (((n * 8) / 2 ^ (56 - 8 * (j - k)) % 256 : Nat) : Int) else 0
theorem tl_zero (k n : Nat) : u8c (tlF k n 0) 72 = u8c (fun j => if j = 0 then 128 else 0) 72 := by
  unfold u8c
  apply List.map_congr_left
  intro j _
  unfold tlF
  by_cases h : j = 0
  · subst h; rfl
  · simp only [if_neg h, show ¬ (k ≤ j ∧ j < k + 0) from by omega, if_false]
theorem tl_set (k n i : Nat) (hk : 1 ≤ k) (h : k + i < 72) : (u8c (tlF k n i) 72).toArray.setIfInBounds (k + i) (.int .u8 (((n * 8) / 2 ^ (56 - 8 * i) % 256 : Nat) : Int)) = (u8c (tlF k n (i + 1)) 72).toArray := by
  rw [List.setIfInBounds_toArray]
  congr 1
  apply List.ext_getElem?
  intro j
  rw [List.getElem?_set]
  by_cases hj : k + i = j
  · subst hj
    rw [if_pos rfl, if_pos (by rw [u8c_length]; exact h), u8c_get _ _ _ h]
    unfold tlF
    rw [if_neg (by omega), if_pos ⟨by omega, by omega⟩, show k + i - k = i from by omega]
  · rw [if_neg hj]
    by_cases h72 : j < 72
    · rw [u8c_get _ _ _ h72, u8c_get _ _ _ h72]
      unfold tlF
      by_cases h0 : j = 0
      · rw [if_pos h0, if_pos h0]
      · rw [if_neg h0, if_neg h0]
        by_cases h1 : k ≤ j ∧ j < k + i
        · rw [if_pos h1, if_pos ⟨h1.1, by omega⟩]
        · rw [if_neg h1, if_neg (by omega)]
    · rw [List.getElem?_eq_none (by rw [u8c_length]; omega), List.getElem?_eq_none (by rw [u8c_length]; omega)]
/-- the tail's bytes -/
def tailS (n : Nat) : List Int := [128] ++ List.replicate (zpad n) 0 ++ bits8 n
theorem tailS_length (n : Nat) : (tailS n).length = zpad n + 9 := by simp [tailS, bits8]
theorem padS_tail (bs : List Int) : padS bs = bs ++ tailS bs.length := by simp [padS, tailS, List.append_assoc]
theorem tailS_get (n j : Nat) (h : j < zpad n + 9) : (tailS n).getD j 0 = tlF (zpad n + 1) n 8 j := by
  unfold tailS tlF
  by_cases h0 : j = 0
  · subst h0; rfl
  · rw [if_neg h0]
    obtain ⟨t, rfl⟩ : ∃ t, j = t + 1 := ⟨j - 1, by omega⟩
    rw [List.getD_eq_getElem?_getD, List.append_assoc, List.getElem?_append_right (by simp)]
    simp only [List.length_singleton, Nat.add_sub_cancel]
    by_cases h1 : t < zpad n
    · rw [List.getElem?_append_left (by simpa using h1), List.getElem?_replicate, if_pos h1, if_neg (by omega)]; rfl
    · rw [List.getElem?_append_right (by simp; omega), if_pos ⟨by omega, by omega⟩, List.length_replicate]
      unfold bits8
      rw [List.getElem?_map, List.getElem?_range (by omega)]
      simp only [Option.map_some, Option.getD_some]
      congr 4; omega
theorem tailS_range (n : Nat) : ∀ y ∈ tailS n, 0 ≤ y ∧ y ≤ 255 := by
  intro y hy
  unfold tailS bits8 at hy
  simp only [List.mem_append, List.mem_cons, List.not_mem_nil, or_false, List.mem_replicate, List.mem_map, List.mem_range] at hy
  rcases hy with (rfl | ⟨_, rfl⟩) | ⟨i, _, rfl⟩
  · decide
  · decide
  · omega
theorem storeHs (σ : Nat → B32) (P : Nat → Int) (n : Nat) (w : World) : (storeCells ⟨w.heap.size, 0, none⟩ (hcl σ P n)).run Tryd.prog (w.alloc (.cells Tryd.zeroCells132 132)) = .ok () (w.alloc (.cells (hcl σ P n).toArray 132)) := by
  have := store_new (P := Tryd.prog) w 132 Tryd.zeroCells132 (hcl σ P n).toArray (by show _ = (hcl σ P n).length; rw [hcl_length]; rfl) (by
    rw [Array.all_eq_true_iff_forall_mem]
    intro u hu
    simp only [hcl, List.mem_toArray, List.mem_cons, List.mem_append, List.not_mem_nil, or_false] at hu
    rcases hu with rfl | hu | hu | rfl
    · rfl
    · exact u32c_one _ _ u hu
    · exact u8c_one _ _ u hu
    · rfl)
  simpa using this
theorem storeTl (T : Nat → Int) (w : World) : (storeCells ⟨w.heap.size, 0, none⟩ (u8c T 72)).run Tryd.prog (w.alloc (.cells Tryd.zeroCells134 134)) = .ok () (w.alloc (.cells (u8c T 72).toArray 134)) := by
  have := store_new (P := Tryd.prog) w 134 Tryd.zeroCells134 (u8c T 72).toArray (by show _ = (u8c T 72).length; rw [u8c_length]; rfl) (by
    rw [Array.all_eq_true_iff_forall_mem]
    intro u hu
    exact u8c_one _ _ u (by simpa using hu))
  simpa using this
theorem buildTl (w : World) : (Instr.build 134 #[(0, .int .u8 128)]).run Tryd.prog w = .ok (.agg (u8c (fun j => if j = 0 then 128 else 0) 72).toArray) w := by kernel_rfl
theorem storeTl2 (w : World) : (storeCells ⟨w.heap.size, 0, none⟩ (Tryd.zeroCells134.toList.set 0 (.int .u8 128))).run Tryd.prog (w.alloc (.cells Tryd.zeroCells134 134)) = .ok () (w.alloc (.cells (u8c (fun j => if j = 0 then 128 else 0) 72).toArray 134)) := by
  rw [show Tryd.zeroCells134.toList.set 0 (.int .u8 128) = u8c (fun j => if j = 0 then 128 else 0) 72 from by kernel_rfl]
  exact storeTl _ w
theorem hsInfo : (Tryd.prog.info? 132).map (·.size) = some 74 := by kernel_rfl
/-- the hash's bytes, so many words laid -/
def ouF (σ : Nat → B32) (j i : Nat) : Int := if i < 4 * j then ((hashByte σ i : Nat) : Int) else 0
theorem ou_zero (σ : Nat → B32) : (#[.int .u8 0, .int .u8 0, .int .u8 0, .int .u8 0, .int .u8 0, .int .u8 0, .int .u8 0, .int .u8 0, .int .u8 0, .int .u8 0, .int .u8 0, .int .u8 0, .int .u8 0, .int .u8 0, .int .u8 0, .int .u8 0, .int .u8 0, .int .u8 0, .int .u8 0, .int .u8 0, .int .u8 0, .int .u8 0, .int .u8 0, .int .u8 0, .int .u8 0, .int .u8 0, .int .u8 0, .int .u8 0, .int .u8 0, .int .u8 0, .int .u8 0, .int .u8 0] : Array Value) = (u8c (ouF σ 0) 32).toArray := by
  show _ = ((List.range 32).map fun i => Value.int .u8 (if i < 4 * 0 then ((hashByte σ i : Nat) : Int) else 0)).toArray
  rw [List.map_congr_left (g := fun _ => Value.int .u8 0) (fun j _ => by rw [if_neg (by omega)])]
  rfl
theorem ou_put (σ : Nat → B32) (j : Nat) (h : j < 8) :
    (u8c (ouF σ j) 32).take (4 * j) ++ [.int .u8 (hashByte σ (4 * j) : Nat), .int .u8 (hashByte σ (4 * j + 1) : Nat), .int .u8 (hashByte σ (4 * j + 2) : Nat), .int .u8 (hashByte σ (4 * j + 3) : Nat)] ++ (u8c (ouF σ j) 32).drop (4 * j + 4) = u8c (ouF σ (j + 1)) 32 := by
  have l1 : ((u8c (ouF σ j) 32).take (4 * j)).length = 4 * j := by rw [List.length_take, u8c_length]; omega
  apply List.ext_getElem?
  intro i
  by_cases h1 : i < 4 * j
  · rw [List.append_assoc, List.getElem?_append_left (by omega), List.getElem?_take, if_pos h1, u8c_get _ _ _ (by omega), u8c_get _ _ _ (by omega)]
    unfold ouF; rw [if_pos h1, if_pos (by omega)]
  · by_cases h2 : i < 4 * j + 4
    · rw [List.append_assoc, List.getElem?_append_right (by omega), l1, u8c_get _ _ _ (by omega)]
      unfold ouF; rw [if_pos (by omega)]
      rcases (by omega : i = 4 * j ∨ i = 4 * j + 1 ∨ i = 4 * j + 2 ∨ i = 4 * j + 3) with rfl | rfl | rfl | rfl
      · rw [Nat.sub_self]; rfl
      · rw [show 4 * j + 1 - 4 * j = 1 from by omega]; rfl
      · rw [show 4 * j + 2 - 4 * j = 2 from by omega]; rfl
      · rw [show 4 * j + 3 - 4 * j = 3 from by omega]; rfl
    · rw [List.getElem?_append_right (by rw [List.length_append, l1]; simp; omega), List.length_append, l1, List.getElem?_drop]
      simp only [List.length_cons, List.length_nil]
      rw [show 4 * j + 4 + (i - (4 * j + (0 + 1 + 1 + 1 + 1))) = i from by omega]
      by_cases h3 : i < 32
      · rw [u8c_get _ _ _ h3, u8c_get _ _ _ h3]
        unfold ouF; rw [if_neg h1, if_neg (by omega)]
      · rw [List.getElem?_eq_none (by rw [u8c_length]; omega), List.getElem?_eq_none (by rw [u8c_length]; omega)]
theorem hashByte_lt (σ : Nat → B32) (i : Nat) : hashByte σ i < 256 := by unfold hashByte; omega
theorem ou_hash (σ : Nat → B32) : u8c (ouF σ 8) 32 = hls (hnum (fun j => ((hashByte σ j : Nat) : Int)) 32) := by
  rw [← hls_of (fun j => ((hashByte σ j : Nat) : Int)) (fun i _ => by have := hashByte_lt σ i; omega)]
  unfold u8c
  apply List.map_congr_left
  intro i hi
  unfold ouF
  rw [if_pos (by have := List.mem_range.1 hi; omega)]
theorem hnum_congr {f g : Nat → Int} : ∀ n, (∀ i, i < n → f i = g i) → hnum f n = hnum g n
  | 0, _ => rfl
  | n + 1, h => by unfold hnum; rw [hnum_congr n (fun i hi => h i (by omega)), h n (by omega)]
theorem byte_shr (x : B32) (n : Nat) : IntKind.u8.wrap (iv (x >>> n)) = ((x.toNat / 2 ^ n % 256 : Nat) : Int) := by
  rw [IntKind.wrap_u8]; unfold iv
  rw [BitVec.toNat_ushiftRight, Nat.shiftRight_eq_div_pow]
  omega
theorem byte_all (x : B32) : IntKind.u8.wrap (iv x) = ((x.toNat / 2 ^ 0 % 256 : Nat) : Int) := by
  rw [IntKind.wrap_u8]; unfold iv; simp
theorem hashByte_at (σ : Nat → B32) (j t : Nat) (ht : t < 4) : hashByte σ (4 * j + t) = (σ j).toNat / 2 ^ (24 - 8 * t) % 256 := by
  unfold hashByte
  rw [show (4 * j + t) / 4 = j from by omega, show (4 * j + t) % 4 = t from by omega]
set_option maxHeartbeats 6400000 in
theorem pssum (hb : Nat) (bs : List Int) (w : World) (G : Glob w) (hH : ∃ σ P, Blk w hb (hcl σ P bs.length).toArray 132 ∧ HS σ P bs) (hn : bs.length < 1152921504606846976) :
    Calls Tryd.prog 79 #[.pointer (some ⟨hb, 0, none⟩)] w fun e w' => e = .returned (hv (shaN bs)) ∧ Below w.heap.size w w' := by
  obtain ⟨σ, P, hB, hS⟩ := hH
  have HG := Lib.hid G
  have HSS := Lib.hid hS
  have hg0 := cell_lt (G.1 0 (by decide))
  have hg1 := cell_lt (G.2 0 (by decide))
  have hbl := hB.lt
  have K0 := (Below.refl w.heap.size w).alloc (Nat.le_refl _) (.cells #[.int .u8 0, .int .u8 0, .int .u8 0, .int .u8 0, .int .u8 0, .int .u8 0, .int .u8 0, .int .u8 0, .int .u8 0, .int .u8 0, .int .u8 0, .int .u8 0, .int .u8 0, .int .u8 0, .int .u8 0, .int .u8 0, .int .u8 0, .int .u8 0, .int .u8 0, .int .u8 0, .int .u8 0, .int .u8 0, .int .u8 0, .int .u8 0, .int .u8 0, .int .u8 0, .int .u8 0, .int .u8 0, .int .u8 0, .int .u8 0, .int .u8 0, .int .u8 0] 94)
  have BR := Lib.hid (And.intro (Blk.new w #[.int .u8 0, .int .u8 0, .int .u8 0, .int .u8 0, .int .u8 0, .int .u8 0, .int .u8 0, .int .u8 0, .int .u8 0, .int .u8 0, .int .u8 0, .int .u8 0, .int .u8 0, .int .u8 0, .int .u8 0, .int .u8 0, .int .u8 0, .int .u8 0, .int .u8 0, .int .u8 0, .int .u8 0, .int .u8 0, .int .u8 0, .int .u8 0, .int .u8 0, .int .u8 0, .int .u8 0, .int .u8 0, .int .u8 0, .int .u8 0, .int .u8 0, .int .u8 0] 94) K0)
  have HB0 := Lib.hid (hB.beyond K0)
  have HI := hsInfo
  generalize hN : bs.length = N at *
  clear G hS hB K0
  go_enter Tryd.func79, Tryd.ntmps79
  go_upto_region 1 with fail
  generalize w.alloc (.cells #[.int .u8 0, .int .u8 0, .int .u8 0, .int .u8 0, .int .u8 0, .int .u8 0, .int .u8 0, .int .u8 0, .int .u8 0, .int .u8 0, .int .u8 0, .int .u8 0, .int .u8 0, .int .u8 0, .int .u8 0, .int .u8 0, .int .u8 0, .int .u8 0, .int .u8 0, .int .u8 0, .int .u8 0, .int .u8 0, .int .u8 0, .int .u8 0, .int .u8 0, .int .u8 0, .int .u8 0, .int .u8 0, .int .u8 0, .int .u8 0, .int .u8 0, .int .u8 0] 94) = w0 at *
  generalize hgw : w.heap.size = rb at *
  have ct : w0.cell? ⟨hb, 0, none⟩ = some (.bool true) := HB0.out.cell 0
  have hst := storeHs σ P N w0
  have BC := Lib.hid (And.intro (Blk.new w0 (hcl σ P N).toArray 132) ((Below.refl w0.heap.size w0).alloc (Nat.le_refl _) (.cells (hcl σ P N).toArray 132)))
  have lb := HB0.out
  go_upto_region 4 with (refine wpList_load_row rfl 132 (.tmp 21) rfl hb rfl _ (hcl σ P N).toArray (0, 0) _ lb Tryd.underlying132 rfl (by rw [HI, List.size_toArray, hcl_length]) ?_)
  generalize w0.alloc (.cells (hcl σ P N).toArray 132) = w1 at *
  generalize hcb : w0.heap.size = cb at *
  generalize htb : w1.heap.size = tb at *
  have hst2 := storeTl2 w1
  rw [htb] at hst2
  have BT := (And.intro (Blk.new w1 (u8c (fun j => if j = 0 then 128 else 0) 72).toArray 134) ((Below.refl w1.heap.size w1).alloc (Nat.le_refl _) (.cells (u8c (fun j => if j = 0 then 128 else 0) 72).toArray 134)))
  rw [htb] at BT
  have BT := Lib.hid BT
  go_upto_region 5 with fail
  generalize w1.alloc (.cells (u8c (fun j => if j = 0 then 128 else 0) 72).toArray 134) = w2 at *
  rw [← tl_zero (zpad N + 1) N] at BT
  clear hst hst2 lb ct
  have K01 := BR.out.2
  have hbl1 : rb < w0.heap.size := BR.out.1.lt
  have K12 : Below w0.heap.size w0 w2 := by
    have h1 := BC.out.2
    have h2 := BT.out.2
    have hs := h1.size
    rw [hcb] at hs ⊢
    exact h1.trans (h2.mono (by rw [← htb]; exact hs))
  have HB2 := Lib.hid (HB0.out.beyond K12)
  have cn : w2.cell? ⟨hb, 73, none⟩ = some (.int .u64 (N : Int)) := by rw [HB2.out.cell, List.getElem?_toArray]; exact hcl_n _ _ _
  have K12 := Lib.hid K12
  clear K01
  go_upto_region 6 with fail
  have hct : cb < tb := by have := BC.out.1.lt; rw [htb] at this; exact this
  have hrc : rb < cb := by have := hbl1; rw [hcb] at this; exact this
  obtain ⟨K, hK⟩ : ∃ K, K = zpad N + 1 := ⟨_, rfl⟩
  have hKi : (119 - (N : Int)) % 64 + 1 = (K : Int) := by rw [hK]; unfold zpad; omega
  have hK64 : 1 ≤ K ∧ K ≤ 64 := by rw [hK]; unfold zpad; omega
  rw [← hK] at BT
  have HK := Lib.hid hK
  rw [hKi]
  clear hK hKi
  obtain ⟨M, hM⟩ : ∃ M, M = N * 8 := ⟨_, rfl⟩
  have HMM := Lib.hid hM
  have hM63 : M < 9223372036854775808 := by omega
  have e1 : Op.shift .shl .u64 (N : Int) .u64 3 = pure (.int .u64 (M : Int)) := by
    rw [shift_shl .u64 .u64 (N : Int) 3 (by decide) (by decide)]
    have : IntKind.u64.wrap ((N : Int) * 2 ^ (3 : Int).toNat) = (M : Int) := by
      rw [hM, show (3 : Int).toNat = 3 from rfl]; simp [IntKind.wrap, IntKind.bits, IntKind.signed]; omega
    rw [this]
  clear hM
  go_wp2
  go_loopg [33] 8 (fun gh i wx => ∃ k : Nat, k ≤ 8 ∧ i = .int .i64 (k : Int) ∧ gh = 8 - k ∧ Hid (Blk wx tb (u8c (tlF K N k) 72).toArray 134 ∧ Keep (fun g => g = tb) w2 wx))
  case atStart => exact ⟨0, by omega, rfl, rfl, BT.out.1, Keep.refl _ _⟩
  case round =>
    obtain ⟨k, hk, rfl, hg, HR⟩ := hrel
    have HGK := Lib.hid hg
    clear hg
    by_cases hlt : k < 8
    · have hKn : N < 1152921504606846976 := hn
      have cn : wr.cell? ⟨hb, 73, none⟩ = some (.int .u64 (N : Int)) := (HR.out.2.cell (p := ⟨hb, 73, none⟩) HB2.out.lt (by show ¬ hb = tb; omega)).trans cn
      obtain ⟨X, hX⟩ : ∃ X, X = M / 2 ^ (56 - 8 * k) := ⟨_, rfl⟩
      have a1 : IntKind.i64.wrap ((K : Int) + (k : Int)) = (K : Int) + (k : Int) := by rw [IntKind.wrap_i64]; omega
      have a2 : IntKind.i64.wrap (8 * (k : Int)) = 8 * (k : Int) := by rw [IntKind.wrap_i64]; omega
      have a3 : IntKind.i64.wrap (56 - 8 * (k : Int)) = 56 - 8 * (k : Int) := by rw [IntKind.wrap_i64]; omega
      have a4 : 0 ≤ (K : Int) + (k : Int) := by omega
      have a5 : (K : Int) + (k : Int) < 72 := by omega
      have a6 : ((K : Int) + (k : Int)).toNat = K + k := by omega
      have e3 : Op.shift .shr .u64 (M : Int) .i64 (56 - 8 * (k : Int)) = pure (.int .u64 (X : Int)) := by
        rw [shift_shr .u64 .i64 (M : Int) (56 - 8 * (k : Int)) (by omega) (by show 56 - 8 * (k : Int) ≤ 64; omega), show (56 - 8 * (k : Int)).toNat = 56 - 8 * k from by omega, hX]
        simp
      have e4 : IntKind.u8.wrap (X : Int) = ((X % 256 : Nat) : Int) := by rw [IntKind.wrap_u8]; omega
      have HX := Lib.hid hX
      generalize hXX : X % 256 = Y at *
      have fz := HR.out.1.free (K + k)
      have cz : wr.cell? ⟨tb, K + k, none⟩ = some (.int .u8 (tlF K N k (K + k))) := by rw [HR.out.1.cell, List.getElem?_toArray]; exact u8c_get _ _ _ (by omega)
      have HXX := Lib.hid hXX
      clear hX hXX
      go_wp2
      go_roundg (8 - (k + 1))
      case measure => rw [HGK.out]; omega
      case rel =>
        refine ⟨k + 1, hlt, rfl, rfl, ?_, HR.out.2.trans ((Keep.refl (fun g => g = tb) wr).set (p := ⟨tb, K + k, none⟩) (.inl rfl) _)⟩
        have := HR.out.1.set (K + k) (.int .u8 (((N * 8) / 2 ^ (56 - 8 * k) % 256 : Nat) : Int))
        rw [tl_set K N k hK64.1 (by omega), ← HMM.out, ← HX.out, HXX.out] at this
        have hv : ((M : Int) / 2 ^ (56 - 8 * k) % 256 : Int) = ((Y : Nat) : Int) := by rw [← HXX.out, HX.out]; simp
        first | exact this | (rw [hv]; exact this)
    · obtain rfl : k = 8 := by omega
      generalize wr = w3 at *
      have hl : (tailS N).length = K + 8 := by rw [tailS_length, HK.out]
      have HTR := HR.out.1
      have hcbb : w0.heap.size = cb := hcb
      have BC3 : Blk w3 cb (hcl σ P N).toArray 132 := by
        have h2 := BT.out.2
        rw [← htb] at h2
        exact HR.out.2.blk (BC.out.1.beyond h2) (by omega)
      have K3 : Below rb w w3 := by
        have h1 := BR.out.2
        have h2 := K12.out
        have hs := h1.size
        have h3 := h1.trans (h2.mono (by rw [← hgw]; exact hs))
        exact h3.trans (HR.out.2.below (by rw [← hgw]; exact h3.size) (fun g h => by rw [h]; omega))
      have G3 : Glob w3 := HG.out.below (by rw [hgw]; exact K3)
      have BY : Lib.BytesIn w3 (some ⟨tb, 0, none⟩) (tailS N).length (tailS N) := Lib.BytesIn.of_cells fun i hi => by
        rw [Addr.add_lit, Nat.zero_add, HTR.cell, List.getElem?_toArray, u8c_get _ _ _ (by omega), tailS_get N i (by rw [← tailS_length]; exact hi), ← HK.out]
      have PW := pswrite cb bs (tailS N) (some ⟨tb, 0, none⟩) 72 w3 G3 ⟨by show cb ≠ 0; omega, by show cb ≠ 1; omega⟩ ⟨σ, P, by rw [hN]; exact BC3, HSS.out⟩ BY (tailS_range N) (by omega) (fun _ p hp => by cases hp; show tb ≠ cb; omega) (by omega)
      rw [hl, ← hN, ← padS_tail] at PW
      have PW := Lib.hid PW
      have K3 := Lib.hid K3
      have w1' : IntKind.i64.wrap ((K : Int) + 8) = (K : Int) + 8 := by rw [IntKind.wrap_i64]; omega
      have w2' : 0 ≤ (K : Int) + 8 := by omega
      have w3' : (K : Int) + 8 ≤ 72 := by omega
      have w4' : ((K : Int) + 8).toNat = K + 8 := by omega
      clear G3 BY BC3 HTR
      go_wp2_with fail
      refine PW.out.mono ?_
      rintro e w4 ⟨rfl, ⟨σ4, P4, hB4, hS4⟩, hk4⟩
      have H4 := Lib.hid (And.intro hB4 (And.intro hS4 hk4))
      have hr4 : (w4.alloc (.cells #[.int .u8 0, .int .u8 0, .int .u8 0, .int .u8 0, .int .u8 0, .int .u8 0, .int .u8 0, .int .u8 0, .int .u8 0, .int .u8 0, .int .u8 0, .int .u8 0, .int .u8 0, .int .u8 0, .int .u8 0, .int .u8 0, .int .u8 0, .int .u8 0, .int .u8 0, .int .u8 0, .int .u8 0, .int .u8 0, .int .u8 0, .int .u8 0, .int .u8 0, .int .u8 0, .int .u8 0, .int .u8 0, .int .u8 0, .int .u8 0, .int .u8 0, .int .u8 0] 94)).rangeAt cb 1 (u32c σ4 8) := fun j v hv => by
        have hj : j < 8 := by have := (List.getElem?_eq_some_iff.1 hv).1; rwa [u32c_length] at this
        rw [u32c_get _ _ _ hj] at hv
        rw [(hB4.beyond ((Below.refl _ w4).alloc (Nat.le_refl _) (.cells #[.int .u8 0, .int .u8 0, .int .u8 0, .int .u8 0, .int .u8 0, .int .u8 0, .int .u8 0, .int .u8 0, .int .u8 0, .int .u8 0, .int .u8 0, .int .u8 0, .int .u8 0, .int .u8 0, .int .u8 0, .int .u8 0, .int .u8 0, .int .u8 0, .int .u8 0, .int .u8 0, .int .u8 0, .int .u8 0, .int .u8 0, .int .u8 0, .int .u8 0, .int .u8 0, .int .u8 0, .int .u8 0, .int .u8 0, .int .u8 0, .int .u8 0, .int .u8 0] 94))).cell, List.getElem?_toArray, hcl_w _ _ _ _ hj, hv]
      have SI := stInfo
      have BO := Lib.hid (And.intro (Blk.new w4 #[.int .u8 0, .int .u8 0, .int .u8 0, .int .u8 0, .int .u8 0, .int .u8 0, .int .u8 0, .int .u8 0, .int .u8 0, .int .u8 0, .int .u8 0, .int .u8 0, .int .u8 0, .int .u8 0, .int .u8 0, .int .u8 0, .int .u8 0, .int .u8 0, .int .u8 0, .int .u8 0, .int .u8 0, .int .u8 0, .int .u8 0, .int .u8 0, .int .u8 0, .int .u8 0, .int .u8 0, .int .u8 0, .int .u8 0, .int .u8 0, .int .u8 0, .int .u8 0] 94) ((Below.refl w4.heap.size w4).alloc (Nat.le_refl _) (.cells #[.int .u8 0, .int .u8 0, .int .u8 0, .int .u8 0, .int .u8 0, .int .u8 0, .int .u8 0, .int .u8 0, .int .u8 0, .int .u8 0, .int .u8 0, .int .u8 0, .int .u8 0, .int .u8 0, .int .u8 0, .int .u8 0, .int .u8 0, .int .u8 0, .int .u8 0, .int .u8 0, .int .u8 0, .int .u8 0, .int .u8 0, .int .u8 0, .int .u8 0, .int .u8 0, .int .u8 0, .int .u8 0, .int .u8 0, .int .u8 0, .int .u8 0, .int .u8 0] 94)))
      clear hB4 hS4 hk4 PW
      go_upto_region 13 with fail
      generalize w4.alloc (.cells #[.int .u8 0, .int .u8 0, .int .u8 0, .int .u8 0, .int .u8 0, .int .u8 0, .int .u8 0, .int .u8 0, .int .u8 0, .int .u8 0, .int .u8 0, .int .u8 0, .int .u8 0, .int .u8 0, .int .u8 0, .int .u8 0, .int .u8 0, .int .u8 0, .int .u8 0, .int .u8 0, .int .u8 0, .int .u8 0, .int .u8 0, .int .u8 0, .int .u8 0, .int .u8 0, .int .u8 0, .int .u8 0, .int .u8 0, .int .u8 0, .int .u8 0, .int .u8 0] 94) = w5 at *
      generalize hob : w4.heap.size = ob at *
      go_wp2_with (refine wpList_load_mid rfl 129 (.tmp 55) rfl cb 1 rfl (u32c σ4 8) _ hr4 Tryd.underlying129 rfl SI ?_)
      clear hr4
      go_loopg [57] 8 (fun gh i wx => ∃ j : Nat, j ≤ 8 ∧ i = .int .i64 (j : Int) ∧ gh = 8 - j ∧ Hid (Blk wx ob (u8c (ouF σ4 j) 32).toArray 94 ∧ Keep (fun g => g = ob) w5 wx))
      case atStart => exact ⟨0, by omega, rfl, rfl, by rw [← ou_zero]; exact BO.out.1, Keep.refl _ _⟩
      case round =>
        obtain ⟨j, hj, rfl, hg, HJ⟩ := hrel
        have HGJ := Lib.hid hg
        clear hg
        by_cases hlt : j < 8
        · have gi := fun w => run_index_arr (P := Tryd.prog) 129 125 8 j (u32c σ4 8).toArray (.int .u32 (iv (σ4 j))) w Tryd.underlying129 (fun w => by kernel_rfl) (fun w => by kernel_rfl) hlt (by rw [List.getElem?_toArray]; exact u32c_get σ4 8 j hlt)
          have h0 := hashByte_at σ4 j 0 (by decide)
          have h1 := hashByte_at σ4 j 1 (by decide)
          have h2 := hashByte_at σ4 j 2 (by decide)
          have h3 := hashByte_at σ4 j 3 (by decide)
          have y0 := byte_shr (σ4 j) 24
          have y1 := byte_shr (σ4 j) 16
          have y2 := byte_shr (σ4 j) 8
          have y3 := byte_all (σ4 j)
          rw [show 24 - 8 * 0 = 24 from rfl] at h0
          rw [show 24 - 8 * 1 = 16 from rfl] at h1
          rw [show 24 - 8 * 2 = 8 from rfl] at h2
          rw [show 24 - 8 * 3 = 0 from rfl] at h3
          rw [← h0] at y0
          rw [← h1] at y1
          rw [← h2] at y2
          rw [← h3] at y3
          have s24 : Op.shift .shr .u32 (iv (σ4 j)) .u64 24 = pure (.int .u32 (iv (σ4 j >>> 24))) := shr32 _ 24 (by decide)
          have s16 : Op.shift .shr .u32 (iv (σ4 j)) .u64 16 = pure (.int .u32 (iv (σ4 j >>> 16))) := shr32 _ 16 (by decide)
          have s8 : Op.shift .shr .u32 (iv (σ4 j)) .u64 8 = pure (.int .u32 (iv (σ4 j >>> 8))) := shr32 _ 8 (by decide)
          have hput := ou_put σ4 j hlt
          rw [Nat.add_zero] at y0
          generalize hashByte σ4 (4 * j) = z0 at *
          generalize hashByte σ4 (4 * j + 1) = z1 at *
          generalize hashByte σ4 (4 * j + 2) = z2 at *
          generalize hashByte σ4 (4 * j + 3) = z3 at *
          have a1 : IntKind.i64.wrap (4 * (j : Int)) = 4 * (j : Int) := by rw [IntKind.wrap_i64]; omega
          have a2 : 0 ≤ 4 * (j : Int) := by omega
          have a3 : 4 * (j : Int) ≤ 32 := by omega
          have a4 : (4 * (j : Int)).toNat = 4 * j := by omega
          have a5 : ¬ (32 : Nat) = 4 * j := by omega
          have kal := (Below.refl wr.heap.size wr).alloc (Nat.le_refl _) (.cells #[.int .u8 (z0 : Int), .int .u8 (z1 : Int), .int .u8 (z2 : Int), .int .u8 (z3 : Int)] 5)
          have bal := Blk.new wr #[.int .u8 (z0 : Int), .int .u8 (z1 : Int), .int .u8 (z2 : Int), .int .u8 (z3 : Int)] 5
          have bo := HJ.out.1.beyond kal
          have RC := run_copy_cells (P := Tryd.prog) (wr.alloc (.cells #[.int .u8 (z0 : Int), .int .u8 (z1 : Int), .int .u8 (z2 : Int), .int .u8 (z3 : Int)] 5)) 32 32 3 5 ob (4 * j) (32 - 4 * j) (32 - 4 * j) ⟨wr.heap.size, 0, none⟩ 4 4 [.int .u8 (z0 : Int), .int .u8 (z1 : Int), .int .u8 (z2 : Int), .int .u8 (z3 : Int)] Tryd.underlying32 (by kernel_rfl) (by
              show 4 = Nat.min 4 (32 - 4 * j)
              exact (Nat.min_eq_left (by omega)).symm)
            (fun i v hv => by rw [Addr.add_lit, Nat.zero_add, bal.cell]; simpa using hv)
            (fun i hi => by rw [bo.cell, List.getElem?_toArray, u8c_get _ _ _ (by have : i < 4 := hi; omega)]; rfl) (fun i _ => bo.free _) (fun v hv => by simp at hv; rcases hv with rfl | rfl | rfl | rfl <;> rfl)
          have B1 := bo.setMid (4 * j) [.int .u8 (z0 : Int), .int .u8 (z1 : Int), .int .u8 (z2 : Int), .int .u8 (z3 : Int)] (by simp [u8c_length]; omega)
          rw [show (u8c (ouF σ4 j) 32).toArray.toList = u8c (ouF σ4 j) 32 from rfl, show ([.int .u8 (z0 : Int), .int .u8 (z1 : Int), .int .u8 (z2 : Int), .int .u8 (z3 : Int)] : List Value).length = 4 from rfl, hput] at B1
          have K1 : Keep (fun g => g = ob) wr ((wr.alloc (.cells #[.int .u8 (z0 : Int), .int .u8 (z1 : Int), .int .u8 (z2 : Int), .int .u8 (z3 : Int)] 5)).setCells ob (4 * j) [.int .u8 (z0 : Int), .int .u8 (z1 : Int), .int .u8 (z2 : Int), .int .u8 (z3 : Int)]) :=
            Keep.setCells (X := fun g => g = ob) (g := ob) (.inl rfl) _ _ ((Keep.refl _ wr).alloc _)
          have HB1 := Lib.hid (And.intro B1 K1)
          clear B1 K1 bo bal kal hput h0 h1 h2 h3
          go_wp2
          go_roundg (8 - (j + 1))
          case measure => rw [HGJ.out]; omega
          case rel => exact ⟨j + 1, hlt, rfl, rfl, HB1.out.1, HJ.out.2.trans HB1.out.2⟩
        · obtain rfl : j = 8 := by omega
          obtain ⟨H, hH⟩ : ∃ H, H = hnum (fun j => ((hashByte σ4 j : Nat) : Int)) 32 := ⟨_, rfl⟩
          have bo : Blk wr ob (hcs H) 94 := by
            have := HJ.out.1
            rw [ou_hash, ← hH] at this
            exact this
          have HHH := Lib.hid (show H = shaN bs from by
            rw [hH]; unfold shaN
            refine hnum_congr 32 (fun i hi => ?_)
            unfold hashByte
            rw [H4.out.2.1.1 (i / 4) (by omega)])
          clear hH
          have k02 : Keep (fun g => g = tb ∨ g = cb ∨ g = ob) w0 w2 := Keep.of_below K12.out
          have k23 := HR.out.2
          have k34 := H4.out.2.2
          have k45 : Keep (fun g => g = tb ∨ g = cb ∨ g = ob) w4 w5 := Keep.of_below (by rw [hob]; exact BO.out.2)
          have k5r := HJ.out.2
          have kk := (((k02.trans (k23.mono fun g h => .inl h)).trans (k34.mono fun g h => .inr (.inl h))).trans k45).trans (k5r.mono fun g h => .inr (.inr h))
          have h4s := k34.size
          have h3s := k23.size
          have hobr : rb < ob := by
            have := k02.size; rw [hcb] at this
            rw [← hob]; omega
          have br := kk.blk BR.out.1 (by rintro (h | h | h) <;> omega)
          have KK := Lib.hid kk
          clear k02 k23 k34 k45 k5r kk h4s h3s
          go_wp2_with (first | (refine wpl_load rfl 94 (.tmp 7) rfl rfl bo Tryd.underlying94 (by rw [hcs_size]; kernel_rfl) ?_) | (refine wpl_store rfl 94 (.tmp 2) (.tmp 78) rfl rfl rfl br (by rw [hcs_size]; rfl) (by rw [hcs_size]; kernel_rfl) (hcs_one H) ?_))
          have bf := br.setAll (hcs H) (by rw [hcs_size]; rfl)
          have b0 := BR.out.2
          have b1 := b0.trans (KK.out.below (by rw [← hgw]; exact b0.size) (fun g h => by rcases h with h | h | h <;> omega))
          have b2 := below_setCells (B := rb) (g := rb) (Nat.le_refl _) (hcs H).toList 0 wr b1
          exact bodyPost_ret (v := hv H) (results_blk Tryd.results79 _ _ rfl bf Tryd.underlying94 (by rw [hcs_size]; kernel_rfl)) rfl ⟨by rw [HHH.out], by rw [hgw]; exact b2⟩
end Go.Proofs.YtbjbjgfjaopibaaDoor
end

section
/- SHA-256, the program's: sha.Sum, Double. -/
namespace Go.Proofs.YtbjbjgfjaopibaaDoor
open Go Go.RowKit
set_option linter.unusedSimpArgs false
set_option linter.unusedVariables false
set_option maxRecDepth 100000

/-- a hash's bytes -/
def hbytes (n : Nat) : List Int := (List.range 32).map fun j => byt n j
theorem hbytes_length (n : Nat) : (hbytes n).length = 32 := by simp [hbytes]
theorem hbytes_range (n : Nat) : ∀ y ∈ hbytes n, 0 ≤ y ∧ y ≤ 255 := by
  intro y hy
  obtain ⟨j, _, rfl⟩ := List.mem_map.1 hy
  have := byt_range n j
  omega
theorem hbytes_in {w : World} {g n : Nat} {t : TypeId} (h : Blk w g (hcs n) t) : Lib.BytesIn w (some ⟨g, 0, none⟩) (hbytes n).length (hbytes n) := Lib.BytesIn.of_cells fun i hi => by
  rw [hbytes_length] at hi
  rw [Addr.add_lit, Nat.zero_add, h.cell, hcs_get n i hi, List.getD_eq_getElem?_getD]
  simp [hbytes, hi]
/-- SHA-256 twice -/
def dblN (bs : List Int) : Nat := shaN (hbytes (shaN bs))
theorem shaN_lt (bs : List Int) : shaN bs < W256 := hnum_lt _ 32 (fun i _ => by have := hashByte_lt (blocksS (padS bs) ((padS bs).length / 64)) i; omega)
set_option maxHeartbeats 3200000 in
theorem psha (ys : List Int) (q : Option Addr) (c : Nat) (w : World) (G : Glob w) (hy : Lib.BytesIn w q ys.length ys) (hr : ∀ y ∈ ys, 0 ≤ y ∧ y ≤ 255) (hc : ys.length ≤ c) (hn : ys.length < 1152921504606846976) :
    Calls Tryd.prog 70 #[.slice q ys.length c] w fun e w' => e = .returned (hv (shaN ys)) ∧ Below w.heap.size w w' := by
  have K0 := (Below.refl w.heap.size w).alloc (Nat.le_refl _) (.cells #[.int .u8 0, .int .u8 0, .int .u8 0, .int .u8 0, .int .u8 0, .int .u8 0, .int .u8 0, .int .u8 0, .int .u8 0, .int .u8 0, .int .u8 0, .int .u8 0, .int .u8 0, .int .u8 0, .int .u8 0, .int .u8 0, .int .u8 0, .int .u8 0, .int .u8 0, .int .u8 0, .int .u8 0, .int .u8 0, .int .u8 0, .int .u8 0, .int .u8 0, .int .u8 0, .int .u8 0, .int .u8 0, .int .u8 0, .int .u8 0, .int .u8 0, .int .u8 0] 94)
  have BR := Lib.hid (And.intro (Blk.new w #[.int .u8 0, .int .u8 0, .int .u8 0, .int .u8 0, .int .u8 0, .int .u8 0, .int .u8 0, .int .u8 0, .int .u8 0, .int .u8 0, .int .u8 0, .int .u8 0, .int .u8 0, .int .u8 0, .int .u8 0, .int .u8 0, .int .u8 0, .int .u8 0, .int .u8 0, .int .u8 0, .int .u8 0, .int .u8 0, .int .u8 0, .int .u8 0, .int .u8 0, .int .u8 0, .int .u8 0, .int .u8 0, .int .u8 0, .int .u8 0, .int .u8 0, .int .u8 0] 94) K0)
  have G0 := G.below K0
  have HY := Lib.hid (bytes_keep hy (Keep.of_below (X := fun _ => False) K0) (fun _ _ _ h => h))
  have hg0 := cell_lt (G.1 0 (by decide))
  have hg1 := cell_lt (G.2 0 (by decide))
  have PN := Lib.hid (psnew _ G0)
  have HG0 := Lib.hid G0
  have HR := Lib.hid hr
  have HQ := Lib.hid (bytes_lt hy)
  have hs0 : (w.alloc (.cells #[.int .u8 0, .int .u8 0, .int .u8 0, .int .u8 0, .int .u8 0, .int .u8 0, .int .u8 0, .int .u8 0, .int .u8 0, .int .u8 0, .int .u8 0, .int .u8 0, .int .u8 0, .int .u8 0, .int .u8 0, .int .u8 0, .int .u8 0, .int .u8 0, .int .u8 0, .int .u8 0, .int .u8 0, .int .u8 0, .int .u8 0, .int .u8 0, .int .u8 0, .int .u8 0, .int .u8 0, .int .u8 0, .int .u8 0, .int .u8 0, .int .u8 0, .int .u8 0] 94)).heap.size = w.heap.size + 1 := by simp
  clear G K0 G0 hy hr
  go_enter Tryd.func70, Tryd.ntmps70
  go_upto_region 1 with fail
  generalize w.alloc (.cells #[.int .u8 0, .int .u8 0, .int .u8 0, .int .u8 0, .int .u8 0, .int .u8 0, .int .u8 0, .int .u8 0, .int .u8 0, .int .u8 0, .int .u8 0, .int .u8 0, .int .u8 0, .int .u8 0, .int .u8 0, .int .u8 0, .int .u8 0, .int .u8 0, .int .u8 0, .int .u8 0, .int .u8 0, .int .u8 0, .int .u8 0, .int .u8 0, .int .u8 0, .int .u8 0, .int .u8 0, .int .u8 0, .int .u8 0, .int .u8 0, .int .u8 0, .int .u8 0] 94) = w0 at *
  generalize hgw : w.heap.size = rb at *
  go_wp2_with fail
  refine PN.out.mono ?_
  rintro e w1 ⟨rfl, hB1, hb1⟩
  rw [hs0] at hB1
  have PW := Lib.hid (pswrite (rb + 1) [] ys q c w1 (HG0.out.below hb1) ⟨by show rb + 1 ≠ 0; have : 0 < rb := hg0; omega, by show rb + 1 ≠ 1; have : 1 < rb := hg1; omega⟩ ⟨s0, fun _ => 0, hB1, HS.nil⟩ (bytes_keep HY.out (Keep.of_below (X := fun _ => False) hb1) (fun _ _ _ h => h)) HR.out hc (fun h0 p hp => by have := HQ.out h0 p hp; omega) (by simp; omega))
  have HB1 := Lib.hid hb1
  rw [hs0]
  clear hB1 hb1
  go_wp2_with fail
  refine PW.out.mono ?_
  rintro e w2 ⟨rfl, hH, hk⟩
  rw [List.nil_append] at hH
  have k02 : Keep (fun g => g = rb + 1) w0 w2 := (Keep.of_below HB1.out).trans hk
  have K2 := Lib.hid k02
  have PS := Lib.hid (pssum (rb + 1) ys w2 (HG0.out.keep' k02 ⟨by have : 0 < rb := hg0; omega, by have : 1 < rb := hg1; omega⟩) hH hn)
  clear hH hk k02
  go_wp2_with fail
  refine PS.out.mono ?_
  rintro e w3 ⟨rfl, hb3⟩
  have k3 : Keep (fun g => g = rb + 1) w0 w3 := K2.out.trans (Keep.of_below hb3)
  have br := k3.blk BR.out.1 (by omega)
  have K3 := Lib.hid k3
  clear k3 hb3
  go_wp2_with (refine wpl_store rfl 94 (.tmp 2) (.tmp 9) rfl rfl rfl br (by rw [hcs_size]; rfl) (by rw [hcs_size]; kernel_rfl) (hcs_one _) ?_)
  have bf := br.setAll (hcs (shaN ys)) (by rw [hcs_size]; rfl)
  have b0 := BR.out.2
  have b1 := b0.trans (K3.out.below (by rw [← hgw]; exact b0.size) (fun g h => by rw [h]; omega))
  have b2 := below_setCells (B := rb) (g := rb) (Nat.le_refl _) (hcs (shaN ys)).toList 0 w3 b1
  exact bodyPost_ret (v := hv (shaN ys)) (results_blk Tryd.results70 _ _ rfl bf Tryd.underlying94 (by rw [hcs_size]; kernel_rfl)) rfl ⟨rfl, by rw [hgw]; exact b2⟩
/-- a variable of type api.Hash, new, is given a value -/
theorem storeH (n : Nat) (w : World) : (storeCells ⟨w.heap.size, 0, none⟩ (hcs n).toList).run Tryd.prog (w.alloc (.cells #[.int .u8 0, .int .u8 0, .int .u8 0, .int .u8 0, .int .u8 0, .int .u8 0, .int .u8 0, .int .u8 0, .int .u8 0, .int .u8 0, .int .u8 0, .int .u8 0, .int .u8 0, .int .u8 0, .int .u8 0, .int .u8 0, .int .u8 0, .int .u8 0, .int .u8 0, .int .u8 0, .int .u8 0, .int .u8 0, .int .u8 0, .int .u8 0, .int .u8 0, .int .u8 0, .int .u8 0, .int .u8 0, .int .u8 0, .int .u8 0, .int .u8 0, .int .u8 0] 94)) = .ok () (w.alloc (.cells (hcs n) 94)) :=
  store_new w _ _ _ (by rw [hcs_size]; rfl) (hcs_one n)
set_option maxHeartbeats 3200000 in
theorem pdouble (ys : List Int) (q : Option Addr) (c : Nat) (w : World) (G : Glob w) (hy : Lib.BytesIn w q ys.length ys) (hr : ∀ y ∈ ys, 0 ≤ y ∧ y ≤ 255) (hc : ys.length ≤ c) (hn : ys.length < 1152921504606846976) :
    Calls Tryd.prog 57 #[.slice q ys.length c] w fun e w' => e = .returned (hv (dblN ys)) ∧ Below w.heap.size w w' := by
  have K0 := (Below.refl w.heap.size w).alloc (Nat.le_refl _) (.cells #[.int .u8 0, .int .u8 0, .int .u8 0, .int .u8 0, .int .u8 0, .int .u8 0, .int .u8 0, .int .u8 0, .int .u8 0, .int .u8 0, .int .u8 0, .int .u8 0, .int .u8 0, .int .u8 0, .int .u8 0, .int .u8 0, .int .u8 0, .int .u8 0, .int .u8 0, .int .u8 0, .int .u8 0, .int .u8 0, .int .u8 0, .int .u8 0, .int .u8 0, .int .u8 0, .int .u8 0, .int .u8 0, .int .u8 0, .int .u8 0, .int .u8 0, .int .u8 0] 94)
  have BR := Lib.hid (And.intro (Blk.new w #[.int .u8 0, .int .u8 0, .int .u8 0, .int .u8 0, .int .u8 0, .int .u8 0, .int .u8 0, .int .u8 0, .int .u8 0, .int .u8 0, .int .u8 0, .int .u8 0, .int .u8 0, .int .u8 0, .int .u8 0, .int .u8 0, .int .u8 0, .int .u8 0, .int .u8 0, .int .u8 0, .int .u8 0, .int .u8 0, .int .u8 0, .int .u8 0, .int .u8 0, .int .u8 0, .int .u8 0, .int .u8 0, .int .u8 0, .int .u8 0, .int .u8 0, .int .u8 0] 94) K0)
  have G0 := G.below K0
  have hs0 : (w.alloc (.cells #[.int .u8 0, .int .u8 0, .int .u8 0, .int .u8 0, .int .u8 0, .int .u8 0, .int .u8 0, .int .u8 0, .int .u8 0, .int .u8 0, .int .u8 0, .int .u8 0, .int .u8 0, .int .u8 0, .int .u8 0, .int .u8 0, .int .u8 0, .int .u8 0, .int .u8 0, .int .u8 0, .int .u8 0, .int .u8 0, .int .u8 0, .int .u8 0, .int .u8 0, .int .u8 0, .int .u8 0, .int .u8 0, .int .u8 0, .int .u8 0, .int .u8 0, .int .u8 0] 94)).heap.size = w.heap.size + 1 := by simp
  have PS := Lib.hid (psha ys q c _ G0 (bytes_keep hy (Keep.of_below (X := fun _ => False) K0) (fun _ _ _ h => h)) hr hc hn)
  have HG0 := Lib.hid G0
  clear G K0 G0 hy hr
  go_enter Tryd.func57, Tryd.ntmps57
  go_upto_region 1 with fail
  generalize w.alloc (.cells #[.int .u8 0, .int .u8 0, .int .u8 0, .int .u8 0, .int .u8 0, .int .u8 0, .int .u8 0, .int .u8 0, .int .u8 0, .int .u8 0, .int .u8 0, .int .u8 0, .int .u8 0, .int .u8 0, .int .u8 0, .int .u8 0, .int .u8 0, .int .u8 0, .int .u8 0, .int .u8 0, .int .u8 0, .int .u8 0, .int .u8 0, .int .u8 0, .int .u8 0, .int .u8 0, .int .u8 0, .int .u8 0, .int .u8 0, .int .u8 0, .int .u8 0, .int .u8 0] 94) = w0 at *
  generalize hgw : w.heap.size = rb at *
  go_wp2_with fail
  refine PS.out.mono ?_
  rintro e w1 ⟨rfl, hb1⟩
  have hst := storeH (shaN ys) w1
  have K1 := (Below.refl w1.heap.size w1).alloc (Nat.le_refl _) (.cells (hcs (shaN ys)) 94)
  have B1 := Blk.new w1 (hcs (shaN ys)) 94
  have KK := hb1.trans (K1.mono hb1.size)
  have hl := hbytes_length (shaN ys)
  have BY := hbytes_in B1
  have PT := psha (hbytes (shaN ys)) (some ⟨w1.heap.size, 0, none⟩) 32 _ (HG0.out.below KK) BY (hbytes_range _) (by omega) (by omega)
  rw [hl] at PT
  have PT := Lib.hid PT
  have KK := Lib.hid KK
  clear K1 B1 hb1 BY hl
  go_upto_region 2 with fail
  generalize w1.alloc (.cells (hcs (shaN ys)) 94) = w2 at *
  clear hst
  go_wp2_with fail
  refine PT.out.mono ?_
  rintro e w3 ⟨rfl, hb3⟩
  have k3 := KK.out.trans (hb3.mono KK.out.size)
  have br := BR.out.1.beyond k3
  have K3 := Lib.hid k3
  clear k3 hb3
  go_wp2_with (refine wpl_store rfl 94 (.tmp 2) (.tmp 7) rfl rfl rfl br (by rw [hcs_size]; rfl) (by rw [hcs_size]; kernel_rfl) (hcs_one _) ?_)
  have bf := br.setAll (hcs (dblN ys)) (by rw [hcs_size]; rfl)
  have b0 := BR.out.2
  have b1 := b0.trans (K3.out.mono (by rw [← hgw]; exact b0.size))
  have b2 := below_setCells (B := rb) (g := rb) (Nat.le_refl _) (hcs (dblN ys)).toList 0 w3 b1
  exact bodyPost_ret (v := hv (dblN ys)) (results_blk Tryd.results57 _ _ rfl bf Tryd.underlying94 (by rw [hcs_size]; kernel_rfl)) rfl ⟨rfl, by rw [hgw]; exact b2⟩
end Go.Proofs.YtbjbjgfjaopibaaDoor
end
