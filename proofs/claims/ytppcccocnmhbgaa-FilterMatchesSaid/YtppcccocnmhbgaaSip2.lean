/- SipHash, the program's: take. -/
import Derived.Test.YtppcccocnmhbgaaSip1
namespace Go.Proofs.Ytppcccocnmhbgaa
open Go Go.RowKit
set_option linter.unusedSimpArgs false
set_option linter.unusedVariables false
set_option maxRecDepth 100000

theorem proundS (s : Sip) (w : World) : Calls Try.prog 92 #[.agg s.cells] w fun e w' => e = .returned (.agg (sipRound s).cells) ∧ Below w.heap.size w w' := pround s.a s.b s.c s.d w
theorem sip_size2 (s t : Sip) : s.cells.size = t.cells.size := rfl
set_option maxHeartbeats 3200000 in
theorem ptake (s : Sip) (m : B64) (w : World) :
    Calls Try.prog 90 #[.agg s.cells, .int .u64 (lv m)] w fun e w' => e = .returned (.agg (sipTake s m).cells) ∧ Below w.heap.size w w' := by
  have L := two_blocks w s.cells #[.int .u64 0, .int .u64 0, .int .u64 0, .int .u64 0] 128 128
  have hs2 : ((w.alloc (.cells s.cells 128)).alloc (.cells #[.int .u64 0, .int .u64 0, .int .u64 0, .int .u64 0] 128)).heap.size = w.heap.size + 2 := by simp
  have HL := Lib.hid (And.intro L hs2)
  clear L hs2
  have XOR := lv_xor
  go_enter Try.func90, Try.ntmps90
  go_upto_region 1 with fail
  generalize (w.alloc (.cells s.cells 128)).alloc (.cells #[.int .u64 0, .int .u64 0, .int .u64 0, .int .u64 0] 128) = W at *
  generalize hgw : w.heap.size = vb at *
  have c3 : W.cell? ⟨vb, 3, none⟩ = some (.int .u64 (lv s.d)) := HL.out.1.1.cell 3
  have f3 := HL.out.1.1.free 3
  have HB1 : Hid (Blk (W.setCell ⟨vb, 3, none⟩ (.int .u64 (lv (s.d ^^^ m)))) vb (⟨s.a, s.b, s.c, s.d ^^^ m⟩ : Sip).cells 128) := HL.out.1.1.set 3 _
  have HK1 := Lib.hid ((Keep.refl (fun g => g = vb) W).set (p := ⟨vb, 3, none⟩) (.inl rfl) (.int .u64 (lv (s.d ^^^ m))))
  go_upto_region 2 with fail
  generalize W.setCell ⟨vb, 3, none⟩ (.int .u64 (lv (s.d ^^^ m))) = W1 at HB1 HK1 ⊢
  clear c3 f3
  obtain ⟨t, ht⟩ : ∃ t : Sip, t = ⟨s.a, s.b, s.c, s.d ^^^ m⟩ := ⟨_, rfl⟩
  rw [← ht] at HB1
  have HTT := Lib.hid ht
  clear ht
  have B1 := HB1.out
  have P1 := Lib.hid (proundS t W1)
  go_wp2_with (refine wpl_load rfl 128 (.tmp 2) rfl rfl B1 Try.underlying128 (sip_info t) ?_)
  refine P1.out.mono ?_
  rintro e W2 ⟨rfl, hb2⟩
  have P2 := Lib.hid (proundS (sipRound t) W2)
  have HB2 := Lib.hid hb2
  clear hb2
  go_wp2_with fail
  refine P2.out.mono ?_
  rintro e W3 ⟨rfl, hb3⟩
  have K13 := HB2.out.trans (hb3.mono HB2.out.size)
  have b3 := B1.beyond K13
  obtain ⟨u, hu⟩ : ∃ u : Sip, u = sipRound (sipRound t) := ⟨_, rfl⟩
  rw [← hu]
  have HU := Lib.hid hu
  clear hu B1
  have HK3 := Lib.hid (HK1.out.trans (Keep.of_below (X := fun g => g = vb) K13))
  have H4 := Lib.hid (And.intro (b3.setAll u.cells (sip_size2 _ _)) (HK3.out.trans (Keep.setCells (X := fun g => g = vb) (g := vb) (.inl rfl) u.cells.toList 0 (Keep.refl _ W3))))
  clear K13 hb3
  go_upto_region 3 with (refine wpl_store rfl 128 (.tmp 2) (.tmp 12) rfl rfl rfl b3 (sip_size2 _ _) (sip_info u) (sip_all u) ?_)
  generalize W3.setCells vb 0 u.cells.toList = W4 at H4 ⊢
  clear b3
  have c0 : W4.cell? ⟨vb, 0, none⟩ = some (.int .u64 (lv u.a)) := H4.out.1.cell 0
  have f0 := H4.out.1.free 0
  have HB5 : Hid (Blk (W4.setCell ⟨vb, 0, none⟩ (.int .u64 (lv (u.a ^^^ m)))) vb (⟨u.a ^^^ m, u.b, u.c, u.d⟩ : Sip).cells 128) := H4.out.1.set 0 _
  have HK5 := Lib.hid (H4.out.2.set (p := ⟨vb, 0, none⟩) (.inl rfl) (.int .u64 (lv (u.a ^^^ m))))
  go_upto_region 4 with fail
  generalize W4.setCell ⟨vb, 0, none⟩ (.int .u64 (lv (u.a ^^^ m))) = W5 at HB5 HK5 ⊢
  clear c0 f0
  have hfin : (⟨u.a ^^^ m, u.b, u.c, u.d⟩ : Sip) = sipTake s m := by rw [HU.out, HTT.out]; rfl
  rw [hfin] at HB5
  have B := HB5.out
  have br := HK5.out.blk HL.out.1.2.1 (by omega)
  obtain ⟨z, hz⟩ : ∃ z, z = sipTake s m := ⟨_, rfl⟩
  rw [← hz] at B
  have HZ := Lib.hid hz
  clear hfin hz XOR
  go_wp2_with (first | (refine wpl_load rfl 128 (.tmp 2) rfl rfl B Try.underlying128 (sip_info z) ?_) | (refine wpl_store rfl 128 (.tmp 4) (.tmp 18) rfl rfl rfl br (sip_size z) (sip_info z) (sip_all z) ?_))
  have bf := br.setAll z.cells (sip_size z)
  have b1 := HL.out.1.2.2.trans (HK5.out.below (B := vb) (by rw [HL.out.2]; omega) (fun k h => by rw [h]; exact Nat.le_refl _))
  have b2 := below_setCells (B := vb) (g := vb + 1) (by omega) z.cells.toList 0 W5 b1
  exact bodyPost_ret (v := .agg z.cells) (results_blk Try.results90 _ _ rfl bf Try.underlying128 (sip_info z)) rfl ⟨by rw [HZ.out], by rw [hgw]; exact b2⟩
/-- the bytes of a word laid: an array of eight -/
def w8 (ys : List Int) (i : Nat) : Int := ys.getD i 0
def w8c (ys : List Int) : List Value := (List.range 8).map fun i => .int .u8 (w8 ys i)
theorem w8c_length (ys : List Int) : (w8c ys).length = 8 := by simp [w8c]
theorem w8c_get (ys : List Int) (i : Nat) (h : i < 8) : (w8c ys)[i]? = some (.int .u8 (w8 ys i)) := by simp [w8c, h]
theorem w8c_one (ys : List Int) : ∀ u ∈ w8c ys, u.oneCell' = true := by intro u hu; obtain ⟨j, _, rfl⟩ := List.mem_map.1 hu; rfl
theorem leN_zeros : ∀ k, leN (List.replicate k 0) = 0
  | 0 => rfl
  | k + 1 => by rw [List.replicate_succ]; show (0 : Int).toNat + 256 * leN (List.replicate k 0) = 0; rw [leN_zeros k]; rfl
theorem leN_append (a b : List Int) : leN (a ++ b) = leN a + 256 ^ a.length * leN b := by
  induction a with
  | nil => simp [leN]
  | cons x r ih =>
    show x.toNat + 256 * leN (r ++ b) = x.toNat + 256 * leN r + 256 ^ (r.length + 1) * leN b
    rw [ih, Nat.pow_succ, Nat.mul_add, ← Nat.mul_assoc, Nat.mul_comm 256 (256 ^ r.length)]; omega
/-- the eight bytes are the word's, and noughts -/
theorem w8_list (ys : List Int) (h : ys.length ≤ 8) : (List.range 8).map (w8 ys) = ys ++ List.replicate (8 - ys.length) 0 := by
  apply List.ext_getElem?
  intro i
  by_cases hi : i < 8
  · rw [List.getElem?_map, List.getElem?_range hi]
    by_cases hy : i < ys.length
    · rw [List.getElem?_append_left hy, List.getElem?_eq_getElem hy]
      simp [w8, List.getD_eq_getElem?_getD, List.getElem?_eq_getElem hy]
    · rw [List.getElem?_append_right (by omega), List.getElem?_replicate, if_pos (by omega)]
      simp [w8, List.getD_eq_getElem?_getD, List.getElem?_eq_none (show ys.length ≤ i by omega)]
  · rw [List.getElem?_eq_none (by simp; omega), List.getElem?_eq_none (by simp; omega)]
set_option maxHeartbeats 1600000 in
/-- sip.word: up to eight bytes, the lowest first -/
theorem sword (ys : List Int) (q : Option Addr) (c : Nat) (w : World) (hy : Lib.BytesIn w q ys.length ys) (hr : ∀ y ∈ ys, 0 ≤ y ∧ y ≤ 255) (h8 : ys.length ≤ 8) :
    Calls Try.prog 91 #[.slice q ys.length c] w fun e w' => e = .returned (.int .u64 ((leN ys : Nat) : Int)) ∧ Below w.heap.size w w' := by
  have bn := Blk.new w #[.int .u8 0, .int .u8 0, .int .u8 0, .int .u8 0, .int .u8 0, .int .u8 0, .int .u8 0, .int .u8 0] 145
  have k0 := (Below.refl w.heap.size w).alloc (Nat.le_refl _) (.cells #[.int .u8 0, .int .u8 0, .int .u8 0, .int .u8 0, .int .u8 0, .int .u8 0, .int .u8 0, .int .u8 0] 145)
  have RC : ∃ w1, (Builtin.copy_ #[26, 26] 3 #[.slice (some ⟨w.heap.size, 0, none⟩) 8 8, .slice q ys.length c]).run Try.prog (w.alloc (.cells #[.int .u8 0, .int .u8 0, .int .u8 0, .int .u8 0, .int .u8 0, .int .u8 0, .int .u8 0, .int .u8 0] 145)) = .ok (.int .i64 (ys.length : Int)) w1 ∧ Blk w1 w.heap.size (w8c ys).toArray 145 ∧ Below w.heap.size w w1 := by
    have hz8 : (#[.int .u8 0, .int .u8 0, .int .u8 0, .int .u8 0, .int .u8 0, .int .u8 0, .int .u8 0, .int .u8 0] : Array Value).toList = List.replicate 8 (.int .u8 0) := rfl
    have hw8 : w8c ys = u8s ys ++ List.replicate (8 - ys.length) (.int .u8 0) := by
      have : w8c ys = u8s ((List.range 8).map (w8 ys)) := by simp [w8c, u8s]
      rw [this, w8_list ys h8, u8s_append]
      congr 1
      simp [u8s]
    by_cases h0 : ys.length = 0
    · obtain rfl : ys = [] := List.eq_nil_of_length_eq_zero h0
      refine ⟨_, ?_, ?_, k0⟩
      · obtain ⟨i0, hi, _, _, _⟩ := info_parts (show (Try.prog.info? 5).map (fun i => (i.zero, i.size, i.bytes)) = some (some (.int .u8 0), 1, 1) by kernel_rfl)
        cases q <;> simp [Builtin.copy_, hi, run_underlying Try.underlying26, sizeOf, typeInfo, Builtin.lenOf, Builtin.firstCells, loadCells, loadCellsFrom, storeCells, goInt]
      · rw [hw8]; exact bn
    · obtain ⟨pb, po, rfl, hc⟩ := hy.at (by omega)
      have hyl : pb < w.heap.size := by have := cell_lt (hc 0 (by omega)); exact this
      have run := run_copy_cells (P := Try.prog) (w.alloc (.cells #[.int .u8 0, .int .u8 0, .int .u8 0, .int .u8 0, .int .u8 0, .int .u8 0, .int .u8 0, .int .u8 0] 145)) 26 26 3 5 w.heap.size 0 8 8 ⟨pb, po, none⟩ ys.length c (u8s ys) Try.underlying26 (by kernel_rfl) (by rw [u8s_length]; exact (Nat.min_eq_left h8).symm)
        (fun j v hv => by
          have hj : j < ys.length := by have := (List.getElem?_eq_some_iff.1 hv).1; simpa [u8s_length] using this
          rw [u8s_get ys j hj] at hv
          rw [Addr.add_lit, k0.cell (p := ⟨pb, po + j, none⟩) hyl, hc j hj]; exact hv)
        (fun j hj => by
          rw [u8s_length] at hj
          rw [Nat.zero_add, bn.cell, ← Array.getElem?_toList, hz8, List.getElem?_replicate, if_pos (by omega)]; rfl)
        (fun j _ => bn.free _) (u8s_one ys)
      rw [u8s_length] at run
      refine ⟨_, run, ?_, below_setCells (Nat.le_refl _) _ _ _ k0⟩
      have h1 := bn.setMid 0 (u8s ys) (by rw [u8s_length]; show 0 + ys.length ≤ 8; omega)
      rw [hz8, List.take_zero, List.nil_append, Nat.zero_add, List.drop_replicate, u8s_length, ← hw8] at h1
      exact h1
  obtain ⟨w1, run1, b1, k1⟩ := RC
  have HL := Lib.hid k1
  clear bn k0 hy k1
  go_enter Try.func91, Try.ntmps91
  have hinf : (Try.prog.info? 145).map (·.size) = some (w8c ys).toArray.size := by rw [List.size_toArray, w8c_length]; kernel_rfl
  go_wp2_with (first | (at_builtin; fail) | (refine Lib.wpList_copy_run rfl _ _ _ _ _ rfl rfl rfl run1 ?_) | (refine wpl_load rfl 145 (.tmp 3) rfl rfl b1 Try.underlying145 hinf ?_))
  have hLL : ((List.range 8).map (w8 ys)).length = 8 := by simp
  have hRR : ∀ y ∈ (List.range 8).map (w8 ys), 0 ≤ y ∧ y ≤ 255 := fun y hy => by
    rw [w8_list ys h8, List.mem_append] at hy
    rcases hy with h | h
    · exact hr y h
    · rw [(List.mem_replicate.1 h).2]; exact ⟨Int.le_refl 0, by decide⟩
  have hSum : leN ((List.range 8).map (w8 ys)) = leN ys := by rw [w8_list ys h8, leN_append, leN_zeros]; omega
  have HF := Lib.hid (And.intro hLL (And.intro hRR hSum))
  clear hLL hRR hSum hr b1 run1
  go_loopg [4, 11] 8 (fun gh s i wx => ∃ k t : Nat, k ≤ 8 ∧ s = .int .u64 (t : Int) ∧ i = .int .i64 (k : Int) ∧ gh = 8 - k ∧ Hid (t = leN (((List.range 8).map (w8 ys)).take k)) ∧ wx = w1)
  case atStart => exact ⟨0, 0, Nat.zero_le _, rfl, rfl, rfl, by rw [List.take_zero]; rfl, rfl⟩
  case round =>
    obtain ⟨k, t, hk, rfl, rfl, hg, HT, hwx⟩ := hrel
    obtain rfl : w1 = wr := hwx.symm
    have HGK := Lib.hid hg
    clear hg
    by_cases hlt : k < 8
    · have gi := fun w => run_index_arr (P := Try.prog) 145 5 8 k (w8c ys).toArray (.int .u8 (w8 ys k)) w Try.underlying145 (fun w => by kernel_rfl) (fun w => by kernel_rfl) hlt (by rw [List.getElem?_toArray]; exact w8c_get ys k hlt)
      have hst := le_step ((List.range 8).map (w8 ys)) HF.out.2.1 k (by rw [HF.out.1]; exact hlt) (by rw [HF.out.1]; exact Nat.le_refl _)
      have hx := getD_rng HF.out.2.1 k
      rw [show ((List.range 8).map (w8 ys)).getD k 0 = w8 ys k from by rw [List.getD_eq_getElem?_getD, List.getElem?_map, List.getElem?_range hlt]; rfl] at hst hx
      generalize w8 ys k = x at *
      rw [← HT.out] at hst
      generalize hu : leN (((List.range 8).map (w8 ys)).take (k + 1)) = u at *
      have HU := Lib.hid hu
      obtain ⟨hx0, hx1⟩ := hx
      have a2 : IntKind.i64.wrap (8 * (k : Int)) = 8 * (k : Int) := by rw [IntKind.wrap_i64]; omega
      have hux : IntKind.u64.wrap x = x := IntWalk.u64_in _ (by omega)
      clear hu
      go_wp2
      go_roundg (8 - (k + 1))
      case measure => rw [HGK.out]; omega
      case rel => exact ⟨k + 1, u, hlt, rfl, rfl, rfl, HU.out.symm, rfl⟩
    · obtain rfl : k = 8 := by omega
      go_wp2
      go_ret
      refine ⟨congrArg (fun n : Nat => Ending.returned (.int .u64 (n : Int))) ?_, HL.out⟩
      rw [HT.out, List.take_of_length_le (by rw [HF.out.1]; exact Nat.le_refl _), HF.out.2.2]
end Go.Proofs.Ytppcccocnmhbgaa
