import Derived.Test.YtgedpgdefafofaaDoorVh6
section
/- SipHash, the program's: take. -/
namespace Go.Proofs.YtgedpgdefafofaaDoor
open Go Go.RowKit
set_option linter.unusedSimpArgs false
set_option linter.unusedVariables false
set_option maxRecDepth 100000

theorem proundS (s : Sip) (w : World) : Calls Tryd.prog 93 #[.agg s.cells] w fun e w' => e = .returned (.agg (sipRound s).cells) ∧ Below w.heap.size w w' := pround s.a s.b s.c s.d w
theorem sip_size2 (s t : Sip) : s.cells.size = t.cells.size := rfl
set_option maxHeartbeats 3200000 in
theorem ptake (s : Sip) (m : B64) (w : World) :
    Calls Tryd.prog 91 #[.agg s.cells, .int .u64 (lv m)] w fun e w' => e = .returned (.agg (sipTake s m).cells) ∧ Below w.heap.size w w' := by
  have L := two_blocks w s.cells #[.int .u64 0, .int .u64 0, .int .u64 0, .int .u64 0] 138 138
  have hs2 : ((w.alloc (.cells s.cells 138)).alloc (.cells #[.int .u64 0, .int .u64 0, .int .u64 0, .int .u64 0] 138)).heap.size = w.heap.size + 2 := by simp
  have HL := Lib.hid (And.intro L hs2)
  clear L hs2
  have XOR := lv_xor
  go_enter Tryd.func91, Tryd.ntmps91
  go_upto_region 1 with fail
  generalize (w.alloc (.cells s.cells 138)).alloc (.cells #[.int .u64 0, .int .u64 0, .int .u64 0, .int .u64 0] 138) = W at *
  generalize hgw : w.heap.size = vb at *
  have c3 : W.cell? ⟨vb, 3, none⟩ = some (.int .u64 (lv s.d)) := HL.out.1.1.cell 3
  have f3 := HL.out.1.1.free 3
  have HB1 : Hid (Blk (W.setCell ⟨vb, 3, none⟩ (.int .u64 (lv (s.d ^^^ m)))) vb (⟨s.a, s.b, s.c, s.d ^^^ m⟩ : Sip).cells 138) := HL.out.1.1.set 3 _
  have HK1 := Lib.hid ((Keep.refl (fun g => g = vb) W).set (p := ⟨vb, 3, none⟩) (.inl rfl) (.int .u64 (lv (s.d ^^^ m))))
  go_upto_region 2 with fail
  generalize W.setCell ⟨vb, 3, none⟩ (.int .u64 (lv (s.d ^^^ m))) = W1 at HB1 HK1 ⊢
  clear c3 f3
  obtain ⟨t, ht⟩ : ∃ t : Sip, t = ⟨s.a, s.b, s.c, s.d ^^^ m⟩ := ⟨_, rfl⟩
  rw [← ht] at HB1
  have HTT := Lib.hid ht
  clear ht
  have B1 := HB1.out
  have P1 := Lib.hid (proundS t W1)
  go_wp2_with (refine wpl_load rfl 138 (.tmp 2) rfl rfl B1 Tryd.underlying138 (sip_info t) ?_)
  refine P1.out.mono ?_
  rintro e W2 ⟨rfl, hb2⟩
  have P2 := Lib.hid (proundS (sipRound t) W2)
  have HB2 := Lib.hid hb2
  clear hb2
  go_wp2_with fail
  refine P2.out.mono ?_
  rintro e W3 ⟨rfl, hb3⟩
  have K13 := HB2.out.trans (hb3.mono HB2.out.size)
  have b3 := B1.beyond K13
  obtain ⟨u, hu⟩ : ∃ u : Sip, u = sipRound (sipRound t) := ⟨_, rfl⟩
  rw [← hu]
  have HU := Lib.hid hu
  clear hu B1
  have HK3 := Lib.hid (HK1.out.trans (Keep.of_below (X := fun g => g = vb) K13))
  have H4 := Lib.hid (And.intro (b3.setAll u.cells (sip_size2 _ _)) (HK3.out.trans (Keep.setCells (X := fun g => g = vb) (g := vb) (.inl rfl) u.cells.toList 0 (Keep.refl _ W3))))
  clear K13 hb3
  go_upto_region 3 with (refine wpl_store rfl 138 (.tmp 2) (.tmp 12) rfl rfl rfl b3 (sip_size2 _ _) (sip_info u) (sip_all u) ?_)
  generalize W3.setCells vb 0 u.cells.toList = W4 at H4 ⊢
  clear b3
  have c0 : W4.cell? ⟨vb, 0, none⟩ = some (.int .u64 (lv u.a)) := H4.out.1.cell 0
  have f0 := H4.out.1.free 0
  have HB5 : Hid (Blk (W4.setCell ⟨vb, 0, none⟩ (.int .u64 (lv (u.a ^^^ m)))) vb (⟨u.a ^^^ m, u.b, u.c, u.d⟩ : Sip).cells 138) := H4.out.1.set 0 _
  have HK5 := Lib.hid (H4.out.2.set (p := ⟨vb, 0, none⟩) (.inl rfl) (.int .u64 (lv (u.a ^^^ m))))
  go_upto_region 4 with fail
  generalize W4.setCell ⟨vb, 0, none⟩ (.int .u64 (lv (u.a ^^^ m))) = W5 at HB5 HK5 ⊢
  clear c0 f0
  have hfin : (⟨u.a ^^^ m, u.b, u.c, u.d⟩ : Sip) = sipTake s m := by rw [HU.out, HTT.out]; rfl
  rw [hfin] at HB5
  have B := HB5.out
  have br := HK5.out.blk HL.out.1.2.1 (by omega)
  obtain ⟨z, hz⟩ : ∃ z, z = sipTake s m := ⟨_, rfl⟩
  rw [← hz] at B
  have HZ := Lib.hid hz
  clear hfin hz XOR
  go_wp2_with (first | (refine wpl_load rfl 138 (.tmp 2) rfl rfl B Tryd.underlying138 (sip_info z) ?_) | (refine wpl_store rfl 138 (.tmp 4) (.tmp 18) rfl rfl rfl br (sip_size z) (sip_info z) (sip_all z) ?_))
  have bf := br.setAll z.cells (sip_size z)
  have b1 := HL.out.1.2.2.trans (HK5.out.below (B := vb) (by rw [HL.out.2]; omega) (fun k h => by rw [h]; exact Nat.le_refl _))
  have b2 := below_setCells (B := vb) (g := vb + 1) (by omega) z.cells.toList 0 W5 b1
  exact bodyPost_ret (v := .agg z.cells) (results_blk Tryd.results91 _ _ rfl bf Tryd.underlying138 (sip_info z)) rfl ⟨by rw [HZ.out], by rw [hgw]; exact b2⟩
/-- the bytes of a word laid: an array of eight -/
def w8 (ys : List Int) (i : Nat) : Int := ys.getD i 0
def w8c (ys : List Int) : List Value := (List.range 8).map fun i => .int .u8 (w8 ys i)
theorem w8c_length (ys : List Int) : (w8c ys).length = 8 := by simp [w8c]
theorem w8c_get (ys : List Int) (i : Nat) (h : i < 8) : (w8c ys)[i]? = some (.int .u8 (w8 ys i)) := by simp [w8c, h]
theorem w8c_one (ys : List Int) : ∀ u ∈ w8c ys, u.oneCell' = true := by intro u hu; obtain ⟨j, _, rfl⟩ := List.mem_map.1 hu; rfl
theorem leN_zeros : ∀ k, leN (List.replicate k 0) = 0
  | 0 => rfl
  | k + 1 => by rw [List.replicate_succ]; show (0 : Int).toNat + 256 * leN (List.replicate k 0) = 0; rw [leN_zeros k]; rfl
theorem leN_append (a b : List Int) : leN (a ++ b) = leN a + 256 ^ a.length * leN b := by
  induction a with
  | nil => simp [leN]
  | cons x r ih =>
    show x.toNat + 256 * leN (r ++ b) = x.toNat + 256 * leN r + 256 ^ (r.length + 1) * leN b
    rw [ih, Nat.pow_succ, Nat.mul_add, ← Nat.mul_assoc, Nat.mul_comm 256 (256 ^ r.length)]; omega
/-- the eight bytes are the word's, and noughts -/
theorem w8_list (ys : List Int) (h : ys.length ≤ 8) : (List.range 8).map (w8 ys) = ys ++ List.replicate (8 - ys.length) 0 := by
  apply List.ext_getElem?
  intro i
  by_cases hi : i < 8
  · rw [List.getElem?_map, List.getElem?_range hi]
    by_cases hy : i < ys.length
    · rw [List.getElem?_append_left hy, List.getElem?_eq_getElem hy]
      simp [w8, List.getD_eq_getElem?_getD, List.getElem?_eq_getElem hy]
    · rw [List.getElem?_append_right (by omega), List.getElem?_replicate, if_pos (by omega)]
      simp [w8, List.getD_eq_getElem?_getD, List.getElem?_eq_none (show ys.length ≤ i by omega)]
  · rw [List.getElem?_eq_none (by simp; omega), List.getElem?_eq_none (by simp; omega)]
set_option maxHeartbeats 1600000 in
/-- sip.word: up to eight bytes, the lowest first -/
theorem sword (ys : List Int) (q : Option Addr) (c : Nat) (w : World) (hy : Lib.BytesIn w q ys.length ys) (hr : ∀ y ∈ ys, 0 ≤ y ∧ y ≤ 255) (h8 : ys.length ≤ 8) :
    Calls Tryd.prog 92 #[.slice q ys.length c] w fun e w' => e = .returned (.int .u64 ((leN ys : Nat) : Int)) ∧ Below w.heap.size w w' := by
  have bn := Blk.new w #[.int .u8 0, .int .u8 0, .int .u8 0, .int .u8 0, .int .u8 0, .int .u8 0, .int .u8 0, .int .u8 0] 150
  have k0 := (Below.refl w.heap.size w).alloc (Nat.le_refl _) (.cells #[.int .u8 0, .int .u8 0, .int .u8 0, .int .u8 0, .int .u8 0, .int .u8 0, .int .u8 0, .int .u8 0] 150)
  have RC : ∃ w1, (Builtin.copy_ #[30, 30] 3 #[.slice (some ⟨w.heap.size, 0, none⟩) 8 8, .slice q ys.length c]).run Tryd.prog (w.alloc (.cells #[.int .u8 0, .int .u8 0, .int .u8 0, .int .u8 0, .int .u8 0, .int .u8 0, .int .u8 0, .int .u8 0] 150)) = .ok (.int .i64 (ys.length : Int)) w1 ∧ Blk w1 w.heap.size (w8c ys).toArray 150 ∧ Below w.heap.size w w1 := by
    have hz8 : (#[.int .u8 0, .int .u8 0, .int .u8 0, .int .u8 0, .int .u8 0, .int .u8 0, .int .u8 0, .int .u8 0] : Array Value).toList = List.replicate 8 (.int .u8 0) := rfl
    have hw8 : w8c ys = u8s ys ++ List.replicate (8 - ys.length) (.int .u8 0) := by
      have : w8c ys = u8s ((List.range 8).map (w8 ys)) := by simp [w8c, u8s]
      rw [this, w8_list ys h8, u8s_append]
      congr 1
      simp [u8s]
    by_cases h0 : ys.length = 0
    · obtain rfl : ys = [] := List.eq_nil_of_length_eq_zero h0
      refine ⟨_, ?_, ?_, k0⟩
      · obtain ⟨i0, hi, _, _, _⟩ := info_parts (show (Tryd.prog.info? 5).map (fun i => (i.zero, i.size, i.bytes)) = some (some (.int .u8 0), 1, 1) by kernel_rfl)
        cases q <;> simp [Builtin.copy_, hi, run_underlying Tryd.underlying30, sizeOf, typeInfo, Builtin.lenOf, Builtin.firstCells, loadCells, loadCellsFrom, storeCells, goInt]
      · rw [hw8]; exact bn
    · obtain ⟨pb, po, rfl, hc⟩ := hy.at (by omega)
      have hyl : pb < w.heap.size := by have := cell_lt (hc 0 (by omega)); exact this
      have run := run_copy_cells (P := Tryd.prog) (w.alloc (.cells #[.int .u8 0, .int .u8 0, .int .u8 0, .int .u8 0, .int .u8 0, .int .u8 0, .int .u8 0, .int .u8 0] 150)) 30 30 3 5 w.heap.size 0 8 8 ⟨pb, po, none⟩ ys.length c (u8s ys) Tryd.underlying30 (by kernel_rfl) (by rw [u8s_length]; exact (Nat.min_eq_left h8).symm)
        (fun j v hv => by
          have hj : j < ys.length := by have := (List.getElem?_eq_some_iff.1 hv).1; simpa [u8s_length] using this
          rw [u8s_get ys j hj] at hv
          rw [Addr.add_lit, k0.cell (p := ⟨pb, po + j, none⟩) hyl, hc j hj]; exact hv)
        (fun j hj => by
          rw [u8s_length] at hj
          rw [Nat.zero_add, bn.cell, ← Array.getElem?_toList, hz8, List.getElem?_replicate, if_pos (by omega)]; rfl)
        (fun j _ => bn.free _) (u8s_one ys)
      rw [u8s_length] at run
      refine ⟨_, run, ?_, below_setCells (Nat.le_refl _) _ _ _ k0⟩
      have h1 := bn.setMid 0 (u8s ys) (by rw [u8s_length]; show 0 + ys.length ≤ 8; omega)
      rw [hz8, List.take_zero, List.nil_append, Nat.zero_add, List.drop_replicate, u8s_length, ← hw8] at h1
      exact h1
  obtain ⟨w1, run1, b1, k1⟩ := RC
  have HL := Lib.hid k1
  clear bn k0 hy k1
  go_enter Tryd.func92, Tryd.ntmps92
  have hinf : (Tryd.prog.info? 150).map (·.size) = some (w8c ys).toArray.size := by rw [List.size_toArray, w8c_length]; kernel_rfl
  go_wp2_with (first | (at_builtin; fail) | (refine Lib.wpList_copy_run rfl _ _ _ _ _ rfl rfl rfl run1 ?_) | (refine wpl_load rfl 150 (.tmp 3) rfl rfl b1 Tryd.underlying150 hinf ?_))
  have hLL : ((List.range 8).map (w8 ys)).length = 8 := by simp
  have hRR : ∀ y ∈ (List.range 8).map (w8 ys), 0 ≤ y ∧ y ≤ 255 := fun y hy => by
    rw [w8_list ys h8, List.mem_append] at hy
    rcases hy with h | h
    · exact hr y h
    · rw [(List.mem_replicate.1 h).2]; exact ⟨Int.le_refl 0, by decide⟩
  have hSum : leN ((List.range 8).map (w8 ys)) = leN ys := by rw [w8_list ys h8, leN_append, leN_zeros]; omega
  have HF := Lib.hid (And.intro hLL (And.intro hRR hSum))
  clear hLL hRR hSum hr b1 run1
  go_loopg [4, 11] 8 (fun gh s i wx => ∃ k t : Nat, k ≤ 8 ∧ s = .int .u64 (t : Int) ∧ i = .int .i64 (k : Int) ∧ gh = 8 - k ∧ Hid (t = leN (((List.range 8).map (w8 ys)).take k)) ∧ wx = w1)
  case atStart => exact ⟨0, 0, Nat.zero_le _, rfl, rfl, rfl, by rw [List.take_zero]; rfl, rfl⟩
  case round =>
    obtain ⟨k, t, hk, rfl, rfl, hg, HT, hwx⟩ := hrel
    obtain rfl : w1 = wr := hwx.symm
    have HGK := Lib.hid hg
    clear hg
    by_cases hlt : k < 8
    · have gi := fun w => run_index_arr (P := Tryd.prog) 150 5 8 k (w8c ys).toArray (.int .u8 (w8 ys k)) w Tryd.underlying150 (fun w => by kernel_rfl) (fun w => by kernel_rfl) hlt (by rw [List.getElem?_toArray]; exact w8c_get ys k hlt)
      have hst := le_step ((List.range 8).map (w8 ys)) HF.out.2.1 k (by rw [HF.out.1]; exact hlt) (by rw [HF.out.1]; exact Nat.le_refl _)
      have hx := getD_rng HF.out.2.1 k
      rw [show ((List.range 8).map (w8 ys)).getD k 0 = w8 ys k from by rw [List.getD_eq_getElem?_getD, List.getElem?_map, List.getElem?_range hlt]; rfl] at hst hx
      generalize w8 ys k = x at *
      rw [← HT.out] at hst
      generalize hu : leN (((List.range 8).map (w8 ys)).take (k + 1)) = u at *
      have HU := Lib.hid hu
      obtain ⟨hx0, hx1⟩ := hx
      have a2 : IntKind.i64.wrap (8 * (k : Int)) = 8 * (k : Int) := by rw [IntKind.wrap_i64]; omega
      have hux : IntKind.u64.wrap x = x := IntWalk.u64_in _ (by omega)
      clear hu
      go_wp2
      go_roundg (8 - (k + 1))
      case measure => rw [HGK.out]; omega
      case rel => exact ⟨k + 1, u, hlt, rfl, rfl, rfl, HU.out.symm, rfl⟩
    · obtain rfl : k = 8 := by omega
      go_wp2
      go_ret
      refine ⟨congrArg (fun n : Nat => Ending.returned (.int .u64 (n : Int))) ?_, HL.out⟩
      rw [HT.out, List.take_of_length_le (by rw [HF.out.1]; exact Nat.le_refl _), HF.out.2.2]
end Go.Proofs.YtgedpgdefafofaaDoor
end

section
/- The high half of a product: the program's, and the document's, bit by bit. -/
namespace Go.Proofs.YtgedpgdefafofaaDoor
open Go Go.RowKit
set_option linter.unusedSimpArgs false
set_option linter.unusedVariables false
set_option maxRecDepth 100000

theorem pscale (x n : Nat) (hx : x < 18446744073709551616) (hn : n < 18446744073709551616) (w : World) :
    Calls Tryd.prog 70 #[.int .u64 (x : Int), .int .u64 (n : Int)] w fun e w' => e = .returned (.int .u64 ((x * n / 18446744073709551616 : Nat) : Int)) ∧ w' = w := by
  have P := Lib.hid (Tryd.bits_Mul64 x n hx hn w)
  clear hx hn
  go_enter Tryd.func70, Tryd.ntmps70
  go_wp2_with fail
  refine P.out.mono ?_
  rintro e w1 ⟨rfl, rfl⟩
  go_wp2
  go_ret
  exact ⟨rfl, rfl⟩
theorem or_carry (h l : Nat) (hh : h < 2 ^ 63) (hl : l < 2 ^ 64) : bits .or .u64 (IntKind.u64.wrap ((h : Int) * 2)) ((l : Int) / 9223372036854775808) = ((2 * h + l / 2 ^ 63 : Nat) : Int) := by
  have e1 : IntKind.u64.wrap ((h : Int) * 2) = ((2 * h : Nat) : Int) := by rw [IntKind.wrap_u64]; omega
  have e2 : (l : Int) / 9223372036854775808 = ((l / 2 ^ 63 : Nat) : Int) := by omega
  rw [e1, e2, show bits .or .u64 ((2 * h : Nat) : Int) ((l / 2 ^ 63 : Nat) : Int) = ((2 * h ||| l / 2 ^ 63 : Nat) : Int) from u64_or_nat _ _ (by omega) (by omega)]
  congr 1
  exact (Nat.two_pow_add_eq_or_of_lt (i := 1) (b := l / 2 ^ 63) (by omega) h).symm
theorem scale_step (A n h l P : Nat) (hP : P = 2 ^ 64) (hA : 2 * A < P) (hn : n < P) (hl : l < P) (e : h * P + l = A * n) :
    2 * h < P ∧ (2 * h + 2 * l / P) * P + 2 * l % P = 2 * A * n := by
  have h0 : 0 < P := by rw [hP]; exact Nat.two_pow_pos _
  have h2 : 2 * A * n < P * P := Nat.mul_lt_mul'' hA hn
  rw [Nat.mul_assoc, ← e, Nat.mul_add] at h2
  constructor
  · have : 2 * (h * P) < P * P := by omega
    rw [← Nat.mul_assoc] at this
    exact Nat.lt_of_mul_lt_mul_right this
  · have := Nat.div_add_mod (2 * l) P
    rw [Nat.add_mul, Nat.mul_assoc 2 A n, ← e, Nat.mul_add, Nat.mul_assoc, Nat.mul_comm (2 * l / P) P]
    omega
theorem scale_add (B n h l P : Nat) (h0 : 0 < P) (hB : B < P) (hn : n < P) (hl : l < P) (hh : h * P + l + n = B * n) (hBP : h + 1 ≤ P) :
    (h + (l + n) / P) * P + (l + n) % P = B * n := by
  have := Nat.div_add_mod (l + n) P
  rw [Nat.add_mul, Nat.mul_comm ((l + n) / P) P]
  omega
theorem scale_bit (x k : Nat) : x / 2 ^ k = 2 * (x / 2 ^ (k + 1)) + x / 2 ^ k % 2 := by
  rw [Nat.pow_succ, ← Nat.div_div_eq_div_mul]; omega
set_option maxHeartbeats 1600000 in
theorem rscale (x n : Nat) (hx : x < 18446744073709551616) (hn : n < 18446744073709551616) (w : World) :
    Calls Tryd.prog 54 #[.int .u64 (x : Int), .int .u64 (n : Int)] w fun e w' => e = .returned (.int .u64 ((x * n / 18446744073709551616 : Nat) : Int)) ∧ w' = w := by
  have HX := Lib.hid (And.intro hx hn)
  clear hx
  go_enter Tryd.func54, Tryd.ntmps54
  go_wp2
  go_loopg [5, 6, 7] 64 (fun gh hi lo i wx => ∃ (k h l : Nat), k ≤ 64 ∧ h < 18446744073709551616 ∧ l < 18446744073709551616 ∧ hi = .int .u64 (h : Int) ∧ lo = .int .u64 (l : Int) ∧ i = .int .i64 ((k : Int) - 1) ∧ gh = k ∧ Hid (h * 2 ^ 64 + l = x / 2 ^ k * n) ∧ wx = w)
  case atStart => exact ⟨64, 0, 0, Nat.le_refl _, by decide, by decide, rfl, rfl, rfl, rfl, Lib.hid (by rw [Nat.div_eq_of_lt (show x < 2 ^ 64 from HX.out.1)]; simp), rfl⟩
  case round =>
    obtain ⟨k, h, l, hk, hh, hl, rfl, rfl, rfl, hg, HR, hwx⟩ := hrel
    obtain rfl : w = wr := hwx.symm
    have HG := Lib.hid hg
    clear hg
    by_cases hlt : 0 < k
    · obtain ⟨j, hj⟩ : ∃ j, j + 1 = k := ⟨k - 1, by omega⟩
      have hjk : (k : Int) - 1 = (j : Int) := by omega
      rw [hjk]
      have HK := Lib.hid (And.intro hj hjk)
      obtain ⟨A, hA⟩ : ∃ A, A = x / 2 ^ (j + 1) := ⟨_, rfl⟩
      obtain ⟨B, hB⟩ : ∃ B, B = x / 2 ^ j := ⟨_, rfl⟩
      have hAB : B = 2 * A + B % 2 := by rw [hA, hB]; exact scale_bit x j
      rw [← hj, ← hA] at HR
      have hBP : B < 18446744073709551616 := by rw [hB]; exact Nat.lt_of_le_of_lt (Nat.div_le_self _ _) HX.out.1
      obtain ⟨s1, s2⟩ := scale_step A n h l 18446744073709551616 rfl (by omega) hn hl HR
      have hor := or_carry h l (by omega) hl
      obtain ⟨h2, hh2⟩ : ∃ h2, h2 = 2 * h + l / 2 ^ 63 := ⟨_, rfl⟩
      obtain ⟨l2, hl2⟩ : ∃ l2, l2 = 2 * l % 18446744073709551616 := ⟨_, rfl⟩
      rw [← hh2] at hor
      have hll : 2 * l / 18446744073709551616 = l / 2 ^ 63 := by omega
      rw [hll, ← hh2, ← hl2] at s2
      have hw2 : IntKind.u64.wrap ((l : Int) * 2) = (l2 : Int) := by rw [IntKind.wrap_u64]; omega
      have b2 : h2 < 18446744073709551616 := by omega
      have b3 : l2 < 18446744073709551616 := by omega
      have hand : bits .and .u64 ((x : Int) / 2 ^ j) 1 = ((B % 2 : Nat) : Int) := by
        rw [show (x : Int) / 2 ^ j = (B : Int) from by rw [hB]; simp]; exact and1 B hBP
      have hjw : IntKind.i64.wrap ((j : Int) - 1) = (j : Int) - 1 := by rw [IntKind.wrap_i64]; omega
      have HS := Lib.hid (And.intro s2 hAB)
      have HBB := Lib.hid hB
      have hj64 : j ≤ 64 := by omega
      clear s1 s2 hh2 hl2 hll hA hB hAB hj hjk HR
      rcases (by omega : B % 2 = 0 ∨ B % 2 = 1) with hb | hb
      · have hand0 : bits .and .u64 ((x : Int) / 2 ^ j) 1 = 0 := by rw [hand, hb]; rfl
        have HB := Lib.hid hb
        clear hb hand
        go_wp2
        go_roundg j
        case measure => rw [HG.out]; have := HK.out.1; omega
        case rel => exact ⟨j, h2, l2, hj64, b2, b3, rfl, rfl, rfl, rfl, Lib.hid (by rw [← HBB.out, HS.out.2, HB.out, Nat.add_zero]; exact HS.out.1), rfl⟩
      · have hand0 : bits .and .u64 ((x : Int) / 2 ^ j) 1 = 1 := by rw [hand, hb]; rfl
        have hBn : h2 * 18446744073709551616 + l2 + n = B * n := by rw [HS.out.2, hb, Nat.add_mul, Nat.one_mul, HS.out.1]
        have hsum := scale_add B n h2 l2 18446744073709551616 (by decide) hBP hn b3 hBn (by omega)
        have hbig : B * n < 18446744073709551616 * 18446744073709551616 := Nat.mul_lt_mul'' hBP hn
        obtain ⟨r, hr⟩ : ∃ r, r = (l2 + n) % 18446744073709551616 := ⟨_, rfl⟩
        obtain ⟨q, hq⟩ : ∃ q, q = (l2 + n) / 18446744073709551616 := ⟨_, rfl⟩
        rw [← hr, ← hq] at hsum
        have hwr : IntKind.u64.wrap ((l2 : Int) + (n : Int)) = (r : Int) := by rw [IntKind.wrap_u64]; omega
        have b4 : r < 18446744073709551616 := by omega
        have hq2 : h2 + q < 18446744073709551616 := by omega
        have HSUM := Lib.hid hsum
        rcases (by omega : (q = 0 ∧ ¬ r < n) ∨ (q = 1 ∧ r < n)) with ⟨h0, h1⟩ | ⟨h0, h1⟩
        · subst h0
          have d1 : ¬ ((r : Int) < (n : Int)) := by omega
          clear hb hand hBn hsum hbig hr hq h1
          go_wp2
          go_roundg j
          case measure => rw [HG.out]; have := HK.out.1; omega
          case rel => exact ⟨j, h2, r, hj64, b2, b4, rfl, rfl, rfl, rfl, Lib.hid (by have := HSUM.out; rw [Nat.add_zero] at this; rw [← HBB.out]; exact this), rfl⟩
        · subst h0
          have d1 : (r : Int) < (n : Int) := by omega
          have hw1 : IntKind.u64.wrap ((h2 : Int) + 1) = ((h2 + 1 : Nat) : Int) := by rw [IntKind.wrap_u64]; omega
          clear hb hand hBn hsum hbig hr hq h1
          go_wp2
          go_roundg j
          case measure => rw [HG.out]; have := HK.out.1; omega
          case rel => exact ⟨j, h2 + 1, r, hj64, hq2, b4, rfl, rfl, rfl, rfl, Lib.hid (by rw [← HBB.out]; exact HSUM.out), rfl⟩
    · obtain rfl : k = 0 := by omega
      have HE : Hid (h = x * n / 18446744073709551616) := Lib.hid (by
        have := HR.out
        rw [Nat.pow_zero, Nat.div_one] at this
        rw [← this, Nat.mul_comm h]
        omega)
      go_wp2
      go_ret
      exact ⟨congrArg (fun n : Nat => Ending.returned (.int .u64 (n : Int))) HE.out, rfl⟩
end Go.Proofs.YtgedpgdefafofaaDoor
end

section
/- SipHash, the program's: Sum. -/
namespace Go.Proofs.YtgedpgdefafofaaDoor
open Go Go.RowKit
set_option linter.unusedSimpArgs false
set_option linter.unusedVariables false
set_option maxRecDepth 100000

theorem sip_range {w : World} {g : Nat} {s : Sip} {t : TypeId} (h : Blk w g s.cells t) : w.rangeAt g 0 s.cells.toList := fun j v hv => by
  rw [Nat.zero_add, h.cell]; simpa using hv
theorem bytes_in_drop' {w : World} {b o n : Nat} {xs : List Int} (hc : ∀ i, i < n → w.cell? ⟨b, o + i, none⟩ = some (.int .u8 (xs.getD i 0))) (hn : xs.length = n) (k : Nat) (p : Option Addr) (hp : k < n → p = some ⟨b, o + k, none⟩) : Lib.BytesIn w p (xs.drop k).length (xs.drop k) := fun h0 => by
  rw [List.length_drop] at h0
  refine ⟨b, o + k, hp (by omega), fun i hi => ?_⟩
  rw [List.length_drop] at hi
  rw [Nat.add_assoc, hc (k + i) (by omega)]
  simp [List.getD_eq_getElem?_getD, List.getElem?_drop]
theorem blk_cells {w : World} {g : Nat} {c d : Array Value} {t : TypeId} (h : Blk w g c t) (e : c = d) : Blk w g d t := e ▸ h
def roundsS (s : Sip) : Nat → Sip
  | 0 => s
  | k + 1 => sipRound (roundsS s k)
theorem end_word (n : Nat) : IntKind.u64.wrap ((n : Int) * 2 ^ 56) = lv (bw (n % 256 * 2 ^ 56)) := by
  rw [lv_bw _ (by omega), IntKind.wrap_u64]; omega
theorem or_last (a b P : Nat) (hP : P = 2 ^ 56) (ha : a < 256) (hb : b < P) : BitVec.ofNat 64 (a * P) ||| BitVec.ofNat 64 b = BitVec.ofNat 64 (a * P + b) := by
  have h1 : a * P < 2 ^ 64 := by
    have : a * P < 256 * P := Nat.mul_lt_mul_of_pos_right ha (by rw [hP]; exact Nat.two_pow_pos _)
    rw [hP] at this ⊢
    exact Nat.lt_of_lt_of_le this (by decide)
  have h2 : a * P + b < 2 ^ 64 := by
    have : a * P + P ≤ 256 * P := by
      have := Nat.mul_le_mul_right P (show a + 1 ≤ 256 from ha)
      rw [Nat.add_mul, Nat.one_mul] at this; exact this
    have h3 : 256 * P = 2 ^ 64 := by subst hP; decide
    omega
  have h3 : b < 2 ^ 64 := Nat.lt_of_lt_of_le hb (by rw [hP]; decide)
  apply BitVec.eq_of_toNat_eq
  rw [BitVec.toNat_or, BitVec.toNat_ofNat, BitVec.toNat_ofNat, BitVec.toNat_ofNat, Nat.mod_eq_of_lt h1, Nat.mod_eq_of_lt h3, Nat.mod_eq_of_lt h2]
  subst hP
  have := Nat.two_pow_add_eq_or_of_lt hb a
  rw [Nat.mul_comm (2 ^ 56) a] at this
  exact this.symm
theorem last_word (ys : List Int) (hr : ∀ y ∈ ys, 0 ≤ y ∧ y ≤ 255) : bw (ys.length % 256 * 2 ^ 56) ||| bw (leN (ys.drop (8 * (ys.length / 8)))) = sipLast ys := by
  unfold sipLast bw
  have hd : (ys.drop (8 * (ys.length / 8))).length ≤ 7 := by rw [List.length_drop]; omega
  have hl := leN_lt (ys.drop (8 * (ys.length / 8))) (fun y hy => hr y (List.mem_of_mem_drop hy))
  have hl2 : leN (ys.drop (8 * (ys.length / 8))) < 2 ^ 56 := Nat.lt_of_lt_of_le hl (by
    rw [pow256]; exact Nat.pow_le_pow_right (by decide) (by omega))
  exact or_last _ _ _ rfl (Nat.mod_lt _ (by decide)) hl2
theorem mask0 : lv (0x736f6d6570736575#64) = 8317987319222330741 := by decide +kernel
theorem mask1 : lv (0x646f72616e646f6d#64) = 7237128888997146477 := by decide +kernel
theorem mask2 : lv (0x6c7967656e657261#64) = 7816392313619706465 := by decide +kernel
theorem mask3 : lv (0x7465646279746573#64) = 8387220255154660723 := by decide +kernel
set_option maxHeartbeats 6400000 in
theorem psip (k0 k1 : B64) (ys : List Int) (q : Option Addr) (c : Nat) (w : World) (hy : Lib.BytesIn w q ys.length ys) (hr : ∀ y ∈ ys, 0 ≤ y ∧ y ≤ 255) (hc : ys.length ≤ c) (hcm : c ≤ 9223372036854775807) (hl : ys.length ≤ 140737488355328) :
    Calls Tryd.prog 71 #[.int .u64 (lv k0), .int .u64 (lv k1), .slice q ys.length c] w fun e w' => e = .returned (.int .u64 (lv (sipS k0 k1 ys))) ∧ Below w.heap.size w w' := by
  have X0 : bits .xor .u64 (lv k0) 8317987319222330741 = lv (k0 ^^^ 0x736f6d6570736575#64) := by rw [← mask0]; exact lv_xor k0 _
  have X1 : bits .xor .u64 (lv k1) 7237128888997146477 = lv (k1 ^^^ 0x646f72616e646f6d#64) := by rw [← mask1]; exact lv_xor k1 _
  have X2 : bits .xor .u64 (lv k0) 7816392313619706465 = lv (k0 ^^^ 0x6c7967656e657261#64) := by rw [← mask2]; exact lv_xor k0 _
  have X3 : bits .xor .u64 (lv k1) 8387220255154660723 = lv (k1 ^^^ 0x7465646279746573#64) := by rw [← mask3]; exact lv_xor k1 _
  have L := two_blocks w #[.int .u64 8317987319222330741, .int .u64 7237128888997146477, .int .u64 7816392313619706465, .int .u64 8387220255154660723] #[.int .u64 (lv (k0 ^^^ 0x736f6d6570736575#64)), .int .u64 (lv (k1 ^^^ 0x646f72616e646f6d#64)), .int .u64 (lv (k0 ^^^ 0x6c7967656e657261#64)), .int .u64 (lv (k1 ^^^ 0x7465646279746573#64))] 138 138
  have hs2 : ((w.alloc (.cells #[.int .u64 8317987319222330741, .int .u64 7237128888997146477, .int .u64 7816392313619706465, .int .u64 8387220255154660723] 138)).alloc (.cells #[.int .u64 (lv (k0 ^^^ 0x736f6d6570736575#64)), .int .u64 (lv (k1 ^^^ 0x646f72616e646f6d#64)), .int .u64 (lv (k0 ^^^ 0x6c7967656e657261#64)), .int .u64 (lv (k1 ^^^ 0x7465646279746573#64))] 138)).heap.size = w.heap.size + 2 := by simp
  have HL := Lib.hid (And.intro L hs2)
  have HY := Lib.hid (And.intro hy (And.intro hr hl))
  have hE := end_word ys.length
  clear L hs2 hy hr
  obtain ⟨n, hn⟩ : ∃ n, n = ys.length := ⟨_, rfl⟩
  rw [← hn] at hE hc hl ⊢
  have HN := Lib.hid hn
  generalize hEE : bw (n % 256 * 2 ^ 56) = E at *
  have hE2 : IntKind.u64.wrap ((n : Int) * 72057594037927936) = lv E := hE
  have HE := Lib.hid hEE
  clear hn hEE
  go_enter Tryd.func71, Tryd.ntmps71
  go_upto_region 3 with fail
  generalize (w.alloc (.cells #[.int .u64 8317987319222330741, .int .u64 7237128888997146477, .int .u64 7816392313619706465, .int .u64 8387220255154660723] 138)).alloc (.cells #[.int .u64 (lv (k0 ^^^ 0x736f6d6570736575#64)), .int .u64 (lv (k1 ^^^ 0x646f72616e646f6d#64)), .int .u64 (lv (k0 ^^^ 0x6c7967656e657261#64)), .int .u64 (lv (k1 ^^^ 0x7465646279746573#64))] 138) = W at *
  generalize hgw : w.heap.size = wb at *
  have HB : Hid (Blk W (wb + 1) (sipInit k0 k1).cells 138 ∧ Below wb w W) := ⟨HL.out.1.2.1, HL.out.1.2.2⟩
  have HZ := Lib.hid HL.out.2
  clear X0 X1 X2 X3 HL
  obtain ⟨s0, hs0⟩ : ∃ s0, s0 = sipInit k0 k1 := ⟨_, rfl⟩
  rw [← hs0] at HB
  have HS0 := Lib.hid hs0
  clear hs0
  have OR := lv_or
  have XOR := lv_xor
  have M2 : ∀ wx : World, Keep (fun g => g = wb + 1) W wx → ∀ (p : Option Addr) (m : Nat) (xs : List Int), Lib.BytesIn w p m xs → Lib.BytesIn wx p m xs := fun wx hk p m xs hb =>
    bytes_keep (bytes_keep hb (Keep.of_below (X := fun _ => False) (by rw [hgw]; exact HB.out.2)) (fun _ _ _ h => h)) hk (fun h0 a ha e => by have := bytes_lt hb h0 a ha; omega)
  have HM2 := Lib.hid M2
  clear M2
  go_wp2
  go_loopg [2] (n / 8) (fun gh v wx => ∃ (k m : Nat) (p : Option Addr) (c' : Nat), m ≤ 140737488355328 ∧ m ≤ c' ∧ c' ≤ 9223372036854775807 ∧ v = .slice p m c' ∧ gh = n / 8 - k ∧ Hid (m + 8 * k = n ∧ Lib.BytesIn w p m (ys.drop (8 * k)) ∧ Blk wx (wb + 1) (sipWords s0 ys k).cells 138 ∧ Keep (fun g => g = wb + 1) W wx))
  case atStart => exact ⟨0, n, q, c, hl, hc, hcm, rfl, rfl, by omega, by rw [Nat.mul_zero, List.drop_zero, HN.out]; exact HY.out.1, HB.out.1, Keep.refl _ _⟩
  case round =>
    obtain ⟨k, m, p, c', hm, hmc, hcm', rfl, hg, HR⟩ := hrel
    have HGK := Lib.hid hg
    clear hg
    by_cases hlt : 8 ≤ m
    · obtain ⟨pb, po, rfl, hcl⟩ := HR.out.2.1.at (by omega)
      have hlen : (ys.drop (8 * k)).length = m := by rw [List.length_drop, ← HN.out]; have := HR.out.1; omega
      have ht8 : ((ys.drop (8 * k)).take 8).length = 8 := by rw [List.length_take]; omega
      have hrt : ∀ y ∈ (ys.drop (8 * k)).take 8, 0 ≤ y ∧ y ≤ 255 := fun y hy => HY.out.2.1 y (List.mem_of_mem_drop (List.mem_of_mem_take hy))
      have b8 : Lib.BytesIn w (some ⟨pb, po, none⟩) 8 ((ys.drop (8 * k)).take 8) := fun _ => ⟨pb, po, rfl, fun i hi => by
        rw [hcl i (by omega)]
        congr 2
        rw [List.getD_eq_getElem?_getD, List.getD_eq_getElem?_getD, List.getElem?_take, if_pos hi]⟩
      have PW := Lib.hid (fun (wx : World) (hk : Keep (fun g => g = wb + 1) W wx) => sword ((ys.drop (8 * k)).take 8) (some ⟨pb, po, none⟩) c' wx (by rw [ht8]; exact HM2.out wx hk _ _ _ b8) hrt (by rw [ht8]; exact Nat.le_refl _))
      rw [ht8] at PW
      have hw : leN ((ys.drop (8 * k)).take 8) < 18446744073709551616 := by
        have := leN_lt _ hrt
        rw [ht8] at this; exact this
      have hlvb := lv_bw _ hw
      generalize hz : leN ((ys.drop (8 * k)).take 8) = z at *
      rw [← hlvb] at PW
      have PT := Lib.hid (fun (wx : World) => ptake (sipWords s0 ys k) (bw z) wx)
      have hstep : sipTake (sipWords s0 ys k) (bw z) = sipWords s0 ys (k + 1) := by rw [← hz]; rfl
      have HST := Lib.hid hstep
      have HZZ := Lib.hid hz
      have hnext : ∀ p2, (8 < m → p2 = some ⟨pb, po + 8, none⟩) → Lib.BytesIn w p2 (m - 8) (ys.drop (8 * (k + 1))) := fun p2 hp => by
        have := bytes_in_drop' hcl hlen 8 p2 hp
        rw [List.drop_drop, show 8 * k + 8 = 8 * (k + 1) from by omega] at this
        have hl2 : (ys.drop (8 * (k + 1))).length = m - 8 := by rw [List.length_drop, ← HN.out]; have := HR.out.1; omega
        rw [hl2] at this; exact this
      have HNX := Lib.hid hnext
      have BV := Lib.hid HR.out.2.2.1
      have KV := Lib.hid HR.out.2.2.2
      clear hlen ht8 hrt b8 hw hlvb hz hstep hnext hcl
      generalize hsk : sipWords s0 ys k = sk at *
      have c8 : (8 : Int) ≤ (c' : Int) := by omega
      have m8 : (8 : Int) ≤ (m : Int) := by omega
      have HLD := Lib.hid (fun (w0 : World) (hs : Below wr.heap.size wr w0) => sip_range (BV.out.beyond hs))
      go_upto_region 5 with fail
      refine wp_region_last 5 (fun w' => Below wr.heap.size wr w') (by kernel_rfl) ((Below.refl _ _).drew) (fun hS => ?_)
      refine wpAnyL_take (i := 0) (oi := ⟨_, _, _, _, _, _⟩) (v := .agg sk.cells) rfl (by kernel_rfl) (by kernel_rfl) (by kernel_rfl) (by kernel_rfl) (fun _ _ _ h => h) (yieldsIf_load_mid (by rfl) 138 (.tmp 8) rfl (wb + 1) 0 rfl sk.cells.toList (.array 4 64) (fun w0 hs => HLD.out w0 hs) Tryd.underlying138 rfl (by kernel_rfl)) hS ?_
      try simp only [Act.put, List.setIfInBounds_toArray, List.set_cons_zero, List.set_cons_succ]
      refine wpAnyL_take (i := 1) (oi := ⟨_, _, _, _, _, _⟩) (v := ?_) rfl (by kernel_rfl) (by kernel_rfl) (by kernel_rfl) (by kernel_rfl) (fun _ _ _ h => h) (Or.inl ⟨by rfl, ?_⟩) hS ?_
      rotate_left
      · intro w0 hs; clear hs; go_simp; try (with_reducible rfl)
      try simp only [Act.put, List.setIfInBounds_toArray, List.set_cons_zero, List.set_cons_succ]
      refine wpAnyL_take (i := 2) (oi := ⟨_, _, _, _, _, _⟩) (v := ?_) rfl (by kernel_rfl) (by kernel_rfl) (by kernel_rfl) (by kernel_rfl) (fun _ _ _ h => h) (Or.inl ⟨by rfl, ?_⟩) hS ?_
      rotate_left
      · intro w0 hs; clear hs; go_simp; try (with_reducible rfl)
      try simp only [Act.put, List.setIfInBounds_toArray, List.set_cons_zero, List.set_cons_succ]
      refine wpAnyL_one (i := 3) (oi := ⟨_, _, _, _, _, _⟩) rfl (by kernel_rfl) (fun K hK => ?_)
      rw [if_pos (by rfl)]
      go_step
      refine (PW.out _ (KV.out.trans (Keep.of_below hS))).mono ?_
      rintro e v1 ⟨rfl, hv1⟩
      simp only []
      have hS' := (hS.trans (hv1.mono hS.size))
      refine hK.out _ _ (.inr hS') ?_
      clear hS hK
      have hS := hS'; clear hS'
      try simp only [Act.put, List.setIfInBounds_toArray, List.set_cons_zero, List.set_cons_succ]
      refine wpAnyL_one (i := 4) (oi := ⟨_, _, _, _, _, _⟩) rfl (by kernel_rfl) (fun K hK => ?_)
      rw [if_pos (by rfl)]
      go_step
      refine (PT.out _).mono ?_
      rintro e v2 ⟨rfl, hv2⟩
      simp only []
      have hS' := (hS.trans (hv2.mono hS.size))
      refine hK.out _ _ (.inr hS') ?_
      clear hS hK
      have hS := hS'; clear hS'
      try simp only [Act.put, List.setIfInBounds_toArray, List.set_cons_zero, List.set_cons_succ]
      refine wpAnyL_one (i := 5) (oi := ⟨_, _, _, _, _, _⟩) rfl (by kernel_rfl) (fun K hK => ?_)
      rw [if_pos (by rfl)]
      have BL := BV.out.beyond hS
      refine wp_store_mid 138 (.tmp 8) (.tmp 39) rfl (wb + 1) 0 (sipTake sk (bw z)).cells rfl rfl (by have := BL.there; exact this) (sip_info _) (sip_all _) ?_
      refine hK.out _ _ (.inl rfl) ?_
      clear hK
      try simp only [Act.put, List.setIfInBounds_toArray, List.set_cons_zero, List.set_cons_succ]
      refine wpAnyL_done (by kernel_rfl) ?_ _
      have HE5 := Lib.hid (And.intro hS BL)
      clear hS BL
      have m9 : ¬ c' = 8 ∨ c' = 8 := by omega
      have k1 := (KV.out.trans (Keep.of_below HE5.out.1)).trans (Keep.setCells (X := fun g => g = wb + 1) (g := wb + 1) (.inl rfl) (sipTake sk (bw z)).cells.toList 0 (Keep.refl _ _))
      have b0 := HE5.out.2.setAll (sipTake sk (bw z)).cells (sip_size2 _ _)
      have b1 := blk_cells b0 (congrArg Sip.cells HST.out)
      clear b0
      have HK1 := Lib.hid (And.intro b1 k1)
      clear b1 k1
      rcases m9 with h9 | h9
      · go_wp2
        go_roundg (n / 8 - (k + 1))
        case measure => rw [HGK.out]; have := HR.out.1; omega
        case rel =>
          have h1 := HNX.out (some ⟨pb, po + 8, none⟩) (fun _ => rfl)
          have h0 : m - 8 + 8 * (k + 1) = n := by have := HR.out.1; omega
          exact ⟨k + 1, m - 8, some ⟨pb, po + 8, none⟩, c' - 8, by omega, by omega, by omega, rfl, rfl, ⟨h0, h1, HK1.out.1, HK1.out.2⟩⟩
      · subst h9
        go_wp2
        go_roundg (n / 8 - (k + 1))
        case measure => rw [HGK.out]; have := HR.out.1; omega
        case rel =>
          have h1 := HNX.out (some ⟨pb, po, none⟩) (fun h => by omega)
          have hm8 : m - 8 = 0 := by omega
          rw [hm8] at h1
          have h0 : 0 + 8 * (k + 1) = n := by have := HR.out.1; omega
          exact ⟨k + 1, 0, some ⟨pb, po, none⟩, 0, by omega, by omega, by omega, rfl, rfl, ⟨h0, h1, HK1.out.1, HK1.out.2⟩⟩
    · have hk8 : k = n / 8 := by have := HR.out.1; omega
      have hlen : (ys.drop (8 * k)).length = m := by rw [List.length_drop, ← HN.out]; have := HR.out.1; omega
      have hrt : ∀ y ∈ ys.drop (8 * k), 0 ≤ y ∧ y ≤ 255 := fun y hy => HY.out.2.1 y (List.mem_of_mem_drop hy)
      have PW := Lib.hid (fun (wx : World) (hk : Keep (fun g => g = wb + 1) W wx) => sword (ys.drop (8 * k)) p c' wx (by rw [hlen]; exact HM2.out wx hk _ _ _ HR.out.2.1) hrt (by rw [hlen]; omega))
      rw [hlen] at PW
      have hw : leN (ys.drop (8 * k)) < 18446744073709551616 := by
        have := leN_lt _ hrt
        rw [hlen, pow256] at this
        exact Nat.lt_of_lt_of_le this (show 2 ^ (8 * m) ≤ 2 ^ 64 from Nat.pow_le_pow_right (by decide) (by omega))
      have hlvb := lv_bw _ hw
      have hlast : E ||| bw (leN (ys.drop (8 * k))) = sipLast ys := by
        rw [← HE.out, hk8, HN.out]; exact last_word ys HY.out.2.1
      generalize hz : leN (ys.drop (8 * k)) = z at *
      rw [← hlvb] at PW
      have PT := Lib.hid (fun (wx : World) => ptake (sipWords s0 ys k) (E ||| bw z) wx)
      have hfin : sipEnd (sipTake (sipWords s0 ys k) (E ||| bw z)) = sipS k0 k1 ys := by
        rw [hlast, hk8, HS0.out, HN.out]; rfl
      have HFIN := Lib.hid hfin
      have BV := Lib.hid HR.out.2.2.1
      have KV := Lib.hid HR.out.2.2.2
      clear hlen hrt hw hlvb hlast hz hfin hk8 HR
      generalize hsk : sipWords s0 ys k = sk at *
      have m8 : ¬ (8 : Int) ≤ (m : Int) := by omega
      have HLD := Lib.hid (fun (w0 : World) (hs : Below wr.heap.size wr w0) => sip_range (BV.out.beyond hs))
      go_upto_region 7 with fail
      refine wp_region_last 6 (fun w' => Below wr.heap.size wr w') (by kernel_rfl) ((Below.refl _ _).drew) (fun hS => ?_)
      refine wpAnyL_take (i := 0) (oi := ⟨_, _, _, _, _, _⟩) (v := .agg sk.cells) rfl (by kernel_rfl) (by kernel_rfl) (by kernel_rfl) (by kernel_rfl) (fun _ _ _ h => h) (yieldsIf_load_mid (by rfl) 138 (.tmp 8) rfl (wb + 1) 0 rfl sk.cells.toList (.array 4 64) (fun w0 hs => HLD.out w0 hs) Tryd.underlying138 rfl (by kernel_rfl)) hS ?_
      try simp only [Act.put, List.setIfInBounds_toArray, List.set_cons_zero, List.set_cons_succ]
      refine wpAnyL_take (i := 1) (oi := ⟨_, _, _, _, _, _⟩) (v := ?_) rfl (by kernel_rfl) (by kernel_rfl) (by kernel_rfl) (by kernel_rfl) (fun _ _ _ h => h) (Or.inl ⟨by rfl, ?_⟩) hS ?_
      rotate_left
      · intro w0 hs; clear hs; go_simp; try (with_reducible rfl)
      try simp only [Act.put, List.setIfInBounds_toArray, List.set_cons_zero, List.set_cons_succ]
      refine wpAnyL_take (i := 2) (oi := ⟨_, _, _, _, _, _⟩) (v := ?_) rfl (by kernel_rfl) (by kernel_rfl) (by kernel_rfl) (by kernel_rfl) (fun _ _ _ h => h) (Or.inl ⟨by rfl, ?_⟩) hS ?_
      rotate_left
      · intro w0 hs; clear hs; go_simp; try (with_reducible rfl)
      try simp only [Act.put, List.setIfInBounds_toArray, List.set_cons_zero, List.set_cons_succ]
      refine wpAnyL_one (i := 3) (oi := ⟨_, _, _, _, _, _⟩) rfl (by kernel_rfl) (fun K hK => ?_)
      rw [if_pos (by rfl)]
      go_step
      refine (PW.out _ (KV.out.trans (Keep.of_below hS))).mono ?_
      rintro e v1 ⟨rfl, hv1⟩
      simp only []
      have hS' := (hS.trans (hv1.mono hS.size))
      refine hK.out _ _ (.inr hS') ?_
      clear hS hK
      have hS := hS'; clear hS'
      try simp only [Act.put, List.setIfInBounds_toArray, List.set_cons_zero, List.set_cons_succ]
      refine wpAnyL_take (i := 4) (oi := ⟨_, _, _, _, _, _⟩) (v := ?_) rfl (by kernel_rfl) (by kernel_rfl) (by kernel_rfl) (by kernel_rfl) (fun _ _ _ h => h) (Or.inl ⟨by rfl, ?_⟩) hS ?_
      rotate_left
      · intro w0 hs; clear hs; go_simp; try (with_reducible rfl)
      try simp only [Act.put, List.setIfInBounds_toArray, List.set_cons_zero, List.set_cons_succ]
      refine wpAnyL_one (i := 5) (oi := ⟨_, _, _, _, _, _⟩) rfl (by kernel_rfl) (fun K hK => ?_)
      rw [if_pos (by rfl)]
      go_step
      refine (PT.out _).mono ?_
      rintro e v2 ⟨rfl, hv2⟩
      simp only []
      have hS' := (hS.trans (hv2.mono hS.size))
      refine hK.out _ _ (.inr hS') ?_
      clear hS hK
      have hS := hS'; clear hS'
      try simp only [Act.put, List.setIfInBounds_toArray, List.set_cons_zero, List.set_cons_succ]
      refine wpAnyL_one (i := 6) (oi := ⟨_, _, _, _, _, _⟩) rfl (by kernel_rfl) (fun K hK => ?_)
      rw [if_pos (by rfl)]
      have BL := BV.out.beyond hS
      refine wp_store_mid 138 (.tmp 8) (.tmp 47) rfl (wb + 1) 0 (sipTake sk (E ||| bw z)).cells rfl rfl (by have := BL.there; exact this) (sip_info _) (sip_all _) ?_
      refine hK.out _ _ (.inl rfl) ?_
      clear hK
      try simp only [Act.put, List.setIfInBounds_toArray, List.set_cons_zero, List.set_cons_succ]
      refine wpAnyL_done (by kernel_rfl) ?_ _
      have K1 := (KV.out.trans (Keep.of_below hS)).trans (Keep.setCells (X := fun g => g = wb + 1) (g := wb + 1) (.inl rfl) (sipTake sk (E ||| bw z)).cells.toList 0 (Keep.refl _ _))
      have B1 := BL.setAll (sipTake sk (E ||| bw z)).cells (sip_size2 _ _)
      generalize v2.setCells (wb + 1) 0 (sipTake sk (E ||| bw z)).cells.toList = W2 at *
      generalize sipTake sk (E ||| bw z) = T at *
      have XF : bits .xor .u64 (lv T.c) 255 = lv (T.c ^^^ 0xff#64) := XOR T.c 0xff#64
      have c2 : W2.cell? ⟨wb + 1, 2, none⟩ = some (.int .u64 (lv T.c)) := B1.cell 2
      have f2 := B1.free 2
      have HB2 : Hid (Blk (W2.setCell ⟨wb + 1, 2, none⟩ (.int .u64 (lv (T.c ^^^ 0xff#64)))) (wb + 1) (⟨T.a, T.b, T.c ^^^ 0xff#64, T.d⟩ : Sip).cells 138) := B1.set 2 _
      have HK2 := Lib.hid (K1.set (p := ⟨wb + 1, 2, none⟩) (.inl rfl) (.int .u64 (lv (T.c ^^^ 0xff#64))))
      clear hS BL K1 B1 XOR OR HLD PW PT BV KV
      go_upto_region 9 with fail
      generalize W2.setCell ⟨wb + 1, 2, none⟩ (.int .u64 (lv (T.c ^^^ 0xff#64))) = W3 at HB2 HK2 ⊢
      clear c2 f2 XF
      obtain ⟨t, ht⟩ : ∃ t : Sip, t = ⟨T.a, T.b, T.c ^^^ 0xff#64, T.d⟩ := ⟨_, rfl⟩
      rw [← ht] at HB2
      have HE2 : Hid ((roundsS t 4).a ^^^ (roundsS t 4).b ^^^ (roundsS t 4).c ^^^ (roundsS t 4).d = sipS k0 k1 ys) := Lib.hid (by rw [← HFIN.out, ht]; rfl)
      clear ht HFIN
      go_wp2
      go_loopg [52] 4 (fun gh i wx => ∃ j : Nat, j ≤ 4 ∧ i = .int .i64 (j : Int) ∧ gh = 4 - j ∧ Hid (Blk wx (wb + 1) (roundsS t j).cells 138 ∧ Keep (fun g => g = wb + 1) W wx))
      case atStart => exact ⟨0, Nat.zero_le _, rfl, rfl, HB2.out, HK2.out⟩
      case round =>
        obtain ⟨j, hj, rfl, hg2, HR2⟩ := hrel
        have HG2 := Lib.hid hg2
        clear hg2
        by_cases hlt2 : j < 4
        · have HST2 : Hid (sipRound (roundsS t j) = roundsS t (j + 1)) := Lib.hid rfl
          generalize roundsS t j = u at *
          have B5 := HR2.out.1
          have PR := Lib.hid (proundS u wr)
          go_wp2_with (refine wpl_load rfl 138 (.tmp 8) rfl rfl B5 Tryd.underlying138 (sip_info u) ?_)
          refine PR.out.mono ?_
          rintro e w5 ⟨rfl, hb5⟩
          have b5 := B5.beyond hb5
          have HK5 := Lib.hid (HR2.out.2.trans (Keep.of_below (X := fun g => g = wb + 1) hb5))
          have b6 := blk_cells (b5.setAll (sipRound u).cells (sip_size2 _ _)) (congrArg Sip.cells HST2.out)
          have k6 := HK5.out.trans (Keep.setCells (X := fun g => g = wb + 1) (g := wb + 1) (.inl rfl) (sipRound u).cells.toList 0 (Keep.refl _ w5))
          have H6 := Lib.hid (And.intro b6 k6)
          clear b6 k6 hb5 B5
          go_wp2_with (refine wpl_store rfl 138 (.tmp 8) (.tmp 55) rfl rfl rfl b5 (sip_size2 _ _) (sip_info _) (sip_all _) ?_)
          go_roundg (4 - (j + 1))
          case measure => rw [HG2.out]; omega
          case rel => exact ⟨j + 1, hlt2, rfl, rfl, H6.out.1, H6.out.2⟩
        · obtain rfl : j = 4 := by omega
          have XOR := lv_xor
          have B5 := HR2.out.1
          have KF := Lib.hid (HB.out.2.trans (HR2.out.2.below (B := wb) (by rw [HZ.out]; omega) (fun k h => by rw [h]; omega)))
          generalize roundsS t 4 = u at *
          have x0 : wr.cell? ⟨wb + 1, 0, none⟩ = some (.int .u64 (lv u.a)) := B5.cell 0
          have x1 : wr.cell? ⟨wb + 1, 1, none⟩ = some (.int .u64 (lv u.b)) := B5.cell 1
          have x2 : wr.cell? ⟨wb + 1, 2, none⟩ = some (.int .u64 (lv u.c)) := B5.cell 2
          have x3 : wr.cell? ⟨wb + 1, 3, none⟩ = some (.int .u64 (lv u.d)) := B5.cell 3
          clear B5 HR2
          go_wp2
          go_ret
          refine ⟨?_, by rw [hgw]; exact KF.out⟩
          rw [HE2.out]
          rfl
end Go.Proofs.YtgedpgdefafofaaDoor
end
