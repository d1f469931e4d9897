/- The document's Copy of a block. -/
import Derived.Test.YtppcccocnmhbgaaCopyT
namespace Go.Proofs.Ytppcccocnmhbgaa
open Go Go.RowKit
set_option linter.unusedSimpArgs false
set_option linter.unusedVariables false
set_option maxRecDepth 100000

theorem txInf3 : (Try.prog.info? 80).map (fun i => (i.zero.map fun z => z.cells.size, i.size, i.bytes)) = some (some 4, 4, 64) := by kernel_rfl
theorem blkInfoO (B : BlkD) : (Try.prog.info? 41).map (·.size) = some (blkCs B).length := by
  have h := blk_size B
  rw [List.size_toArray] at h
  have e : (Try.prog.info? 41).map (·.size) = some 69 := by kernel_rfl
  rw [e, h]
def tx0 : TxD := ⟨0, ⟨none, 0, 0, fun _ => in0⟩, ⟨none, 0, 0, fun _ => out0⟩, 0⟩
theorem blkCs_one (B : BlkD) : ∀ u ∈ blkCs B, u.oneCell' = true := fun u hu => by
  rcases List.mem_append.1 hu with h | h
  · rcases List.mem_append.1 h with h | h
    · rcases List.mem_append.1 h with h | h
      · rcases List.mem_append.1 h with h | h
        · rw [List.mem_singleton.1 h]; rfl
        · exact hls_one _ u h
      · exact hls_one _ u h
    · simp only [List.mem_cons, List.not_mem_nil, or_false] at h
      rcases h with rfl | rfl | rfl <;> rfl
  · rw [List.mem_singleton.1 h]; rfl
theorem blkCs_set (B : BlkD) (s : SlD TxD) : (blkCs B).set 68 s.cell = blkCs { B with txs := s } := by
  have h : (hdrCs B.hdr).length = 68 := by simp [hdrCs, hls_length]
  unfold blkCs
  rw [List.set_append, if_neg (by omega), h]; rfl
/-- a block in memory of its own -/
def blkAt (P : Nat → Prop) (w : World) (B : BlkD) : Prop := HdrOk B.hdr ∧ slAt txK P w B.txs
theorem blkAt.ok {P : Nat → Prop} {w : World} {B : BlkD} (h : blkAt P w B) : BlkOk 1048576 w B := ⟨h.1, h.2.ok (K := txK) (fun x hx => txK_ok hx)⟩
theorem blkAt.keep {P X : Nat → Prop} {w w' : World} {B : BlkD} (h : blkAt P w B) (hk : Keep X w w') (hn : ∀ b, P b → ¬ X b) : blkAt P w' B := ⟨h.1, h.2.keep hk hn⟩
theorem blkAt.mono {P P' : Nat → Prop} {w : World} {B : BlkD} (h : blkAt P w B) (hm : ∀ b, P b → P' b) : blkAt P' w B := ⟨h.1, h.2.mono hm⟩
theorem rangeAt_keep {X : Nat → Prop} {w w' : World} {b o : Nat} {cs : List Value} (h : w.rangeAt b o cs) (hk : Keep X w w') (hn : ¬ X b) : w'.rangeAt b o cs := fun j v hv => (hk.cell (cell_lt (h j v hv)) hn).trans (h j v hv)
set_option maxHeartbeats 6400000 in
theorem rcopy_blk (B : BlkD) (w : World) (hB : BlkOk 1048576 w B) : Calls Try.prog 19 #[.agg (blkCs B).toArray] w fun e w' => ∃ C, e = .returned (.agg (blkCs C).toArray) ∧ blkEq B C ∧ blkAt (fun b => w.heap.size ≤ b ∧ b < w'.heap.size) w' C ∧ Below w.heap.size w w' := by
  obtain ⟨hd, ⟨ta, n, tc, tx⟩⟩ := B
  have hn : n ≤ 1048576 := hB.2.2.1.1
  obtain ⟨BC, hBC⟩ : ∃ BC, BC = blkCs ⟨hd, ⟨ta, n, tc, tx⟩⟩ := ⟨_, rfl⟩
  have L := two_blocks w BC.toArray Try.zeroCells41 41 41
  have hsz : BC.toArray.size = 69 := by rw [hBC]; exact blk_size _
  have h68 : BC.toArray[68]? = some (.slice ta n tc) := by rw [hBC]; exact blk_txs _
  have hbi : (Try.prog.info? 41).map (·.size) = some BC.length := by rw [hBC]; exact blkInfoO _
  have hHB := Lib.hid hB
  have HBC := Lib.hid hBC
  rw [← hBC]
  have c68 := L.1.cell 68
  rw [h68] at c68
  have hs2 : ((w.alloc (.cells BC.toArray 41)).alloc (.cells Try.zeroCells41 41)).heap.size = w.heap.size + 2 := by simp
  have HL := Lib.hid (And.intro L hs2)
  clear hB hBC L hs2
  go_enter Try.func19, Try.ntmps19
  go_upto_region 2 with fail
  generalize (w.alloc (.cells BC.toArray 41)).alloc (.cells Try.zeroCells41 41) = w0 at *
  generalize hgw : w.heap.size = g at *
  go_wp2
  go_loopg [3, 9] n (fun gh v i wx => ∃ (k : Nat) (X : List TxD), k ≤ n ∧ i = .int .i64 (k : Int) ∧ gh = n - k ∧ Hid (X.length = k ∧ (∀ j, j < k → txEq (tx j) (X.getD j tx0)) ∧ LstAt txK 80 wx w0.heap.size v X ∧ Below w0.heap.size w0 wx))
  case atStart => exact ⟨0, [], Nat.zero_le _, rfl, rfl, rfl, fun j hj => absurd hj (Nat.not_lt_zero j), LstAt.nil _ _ _ _, Below.refl _ _⟩
  case round =>
    obtain ⟨k, X, hk, rfl, hg, HK⟩ := hrel
    have HG := Lib.hid hg
    clear hg
    have KW := Lib.hid (HL.out.1.2.2.trans (HK.out.2.2.2.mono (by have := HL.out.2; omega)))
    by_cases hlt : k < n
    · obtain ⟨b, o, hia, _, hca, hok⟩ := hHB.out.2.2.2.2 k hlt
      change ta = some ⟨b, o, none⟩ at hia
      subst hia
      change CellsAt w b (o + k * 4) (txCs (tx k)) at hca
      change TxOk 1048576 w (tx k) at hok
      obtain ⟨xi, hxi⟩ : ∃ xi, xi = tx k := ⟨_, rfl⟩
      rw [← hxi] at hca hok
      have hcr := hca.below (w' := wr) (by rw [hgw]; exact KW.out)
      have hokr := TxOk.below (w' := wr) (by rw [hgw]; exact KW.out) hok
      have HXI := Lib.hid hxi
      obtain ⟨ver, ⟨ia, ni, ic, ix⟩, ⟨oa, m, oc, ox⟩, lock⟩ := xi
      have t0 : wr.cell? ⟨b, o + k * 4, none⟩ = some (.int .u32 ver) := hcr 0 (by simp [txCs])
      have t1 : wr.cell? ⟨b, o + k * 4 + 1, none⟩ = some (.slice ia ni ic) := hcr 1 (by simp [txCs])
      have t2 : wr.cell? ⟨b, o + k * 4 + 2, none⟩ = some (.slice oa m oc) := hcr 2 (by simp [txCs])
      have t3 : wr.cell? ⟨b, o + k * 4 + 3, none⟩ = some (.int .u32 lock) := hcr 3 (by simp [txCs])
      have bx := Blk.new wr #[.int .u32 ver, .slice ia ni ic, .slice oa m oc, .int .u32 lock] 80
      have kx := (Below.refl wr.heap.size wr).alloc (Nat.le_refl _) (.cells #[.int .u32 ver, .slice ia ni ic, .slice oa m oc, .int .u32 lock] 80)
      have PC : Calls Try.prog 45 #[.agg #[.int .u32 ver, .slice ia ni ic, .slice oa m oc, .int .u32 lock]] (wr.alloc (.cells #[.int .u32 ver, .slice ia ni ic, .slice oa m oc, .int .u32 lock] 80)) fun e w' => ∃ v5 ja jn jc jx pa pn pc px l5, e = .returned (.agg #[.int .u32 v5, .slice ja jn jc, .slice pa pn pc, .int .u32 l5]) ∧ txEq ⟨ver, ⟨ia, ni, ic, ix⟩, ⟨oa, m, oc, ox⟩, lock⟩ ⟨v5, ⟨ja, jn, jc, jx⟩, ⟨pa, pn, pc, px⟩, l5⟩ ∧ txK.at' (fun b => (wr.alloc (.cells #[.int .u32 ver, .slice ia ni ic, .slice oa m oc, .int .u32 lock] 80)).heap.size ≤ b ∧ b < w'.heap.size) w' ⟨v5, ⟨ja, jn, jc, jx⟩, ⟨pa, pn, pc, px⟩, l5⟩ ∧ Below (wr.alloc (.cells #[.int .u32 ver, .slice ia ni ic, .slice oa m oc, .int .u32 lock] 80)).heap.size (wr.alloc (.cells #[.int .u32 ver, .slice ia ni ic, .slice oa m oc, .int .u32 lock] 80)) w' := by
        refine (rcopy_tx ⟨ver, ⟨ia, ni, ic, ix⟩, ⟨oa, m, oc, ox⟩, lock⟩ (wr.alloc (.cells #[.int .u32 ver, .slice ia ni ic, .slice oa m oc, .int .u32 lock] 80)) (TxOk.below kx hokr)).mono ?_
        rintro e w' ⟨⟨v5, ⟨ja, jn, jc, jx⟩, ⟨pa, pn, pc, px⟩, l5⟩, rfl, h1, h2, h3⟩
        exact ⟨v5, ja, jn, jc, jx, pa, pn, pc, px, l5, rfl, h1, h2, h3⟩
      have PC := Lib.hid PC
      have KX := Lib.hid kx
      have cx0 := bx.cell 0
      have cx1 := bx.cell 1
      have cx2 := bx.cell 2
      have cx3 := bx.cell 3
      clear hca hok hcr hokr hxi kx bx
      go_upto_region 5 with fail
      clear t0 t1 t2 t3
      generalize wr.alloc (.cells #[.int .u32 ver, .slice ia ni ic, .slice oa m oc, .int .u32 lock] 80) = w4 at *
      change w4.cell? ⟨wr.heap.size, 0, none⟩ = some (.int .u32 ver) at cx0
      change w4.cell? ⟨wr.heap.size, 1, none⟩ = some (.slice ia ni ic) at cx1
      change w4.cell? ⟨wr.heap.size, 2, none⟩ = some (.slice oa m oc) at cx2
      change w4.cell? ⟨wr.heap.size, 3, none⟩ = some (.int .u32 lock) at cx3
      go_wp2_with fail
      refine PC.out.mono ?_
      rintro e w5 ⟨v5, ja, jn, jc, jx, pa, pn, pc, px, l5, rfl, heq, hat, hb5⟩
      obtain ⟨i1, z1, f1, f2, f3, f4, f5⟩ := info_of txInf3
      have hxl : X.length ≤ 1048576 := by have := HK.out.1; omega
      have hs4 := KX.out.size
      have hb45 := KX.out.trans (hb5.mono hs4)
      obtain ⟨q8, n8, v8, w8, hv8, run8, hL8, hb8⟩ := HK.out.2.2.1.add 39 Try.underlying39 f1 f2 f3 f4 f5 (by decide) hb45 HK.out.2.2.2.size (txK.mono hat (fun b hb => ⟨by omega, hb.2⟩)) (by unfold maxLen; omega) (by omega)
      subst hv8
      change (Builtin.append_ #[39, 39] 39 #[.slice q8 X.length n8, .slice (some ⟨w5.heap.size, 0, none⟩) 1 1]).run Try.prog (w5.alloc (.cells #[.int .u32 v5, .slice ja jn jc, .slice pa pn pc, .int .u32 l5] 80)) = .ok v8 w8 at run8
      have heq' : txEq (tx k) ⟨v5, ⟨ja, jn, jc, jx⟩, ⟨pa, pn, pc, px⟩, l5⟩ := by rw [← HXI.out]; exact heq
      have H8 := Lib.hid (And.intro heq' (And.intro hL8 (HK.out.2.2.2.trans ((hb45.mono HK.out.2.2.2.size).trans hb8))))
      clear cx0 cx1 cx2 cx3 heq heq' hat hb5 f1 f2 f3 f4 f5 hxl hb45 hL8 hb8
      go_wp2_with (at_builtin; refine wpl_append rfl _ _ 39 rfl rfl rfl run8 ?_)
      go_roundg (n - (k + 1))
      case measure => rw [HG.out]; omega
      case rel =>
        refine ⟨k + 1, X ++ [_], hlt, rfl, rfl, by rw [List.length_append, HK.out.1]; rfl, fun t ht => ?_, H8.out.2.1, H8.out.2.2⟩
        rcases Nat.lt_or_ge t k with h | h
        · rw [List.getD_eq_getElem?_getD, List.getElem?_append_left (by rw [HK.out.1]; exact h), ← List.getD_eq_getElem?_getD]; exact HK.out.2.1 t h
        · obtain rfl : t = k := by omega
          rw [List.getD_eq_getElem?_getD, List.getElem?_append_right (by rw [HK.out.1]; exact Nat.le_refl _), HK.out.1, Nat.sub_self]
          exact H8.out.1
    · obtain rfl : k = n := by omega
      obtain ⟨⟨la, ln, lc, lx⟩, hv, hsn, hsx, hsat⟩ := HK.out.2.2.1.sl tx0 (by rw [HK.out.1]; exact hn)
      change _ = Value.slice la ln lc at hv
      change ln = _ at hsn
      change ∀ i, i < X.length → lx i = _ at hsx
      subst hv
      have heq : blkEq ⟨hd, ⟨ta, k, tc, tx⟩⟩ ⟨hd, ⟨la, ln, lc, lx⟩⟩ := ⟨rfl, by show k = ln; rw [hsn, HK.out.1], fun t ht => by
        show txEq (tx t) (lx t)
        rw [hsx t (by rw [HK.out.1]; exact ht)]
        exact HK.out.2.1 t ht⟩
      have hw0 := HL.out.2
      have hsz0 := HK.out.2.2.2.size
      have bg1 := HL.out.1.1.beyond HK.out.2.2.2
      have bg2 := HL.out.1.2.1.beyond HK.out.2.2.2
      have cg : wr.cell? ⟨g, 68, none⟩ = some (.slice ta k tc) := by rw [bg1.cell]; exact h68
      have fg := bg1.free 68
      have b1 := bg1.set 68 (.slice la ln lc)
      have e68 := blkCs_set ⟨hd, ⟨ta, k, tc, tx⟩⟩ ⟨la, ln, lc, lx⟩
      change (blkCs ⟨hd, ⟨ta, k, tc, tx⟩⟩).set 68 (.slice la ln lc) = blkCs ⟨hd, ⟨la, ln, lc, lx⟩⟩ at e68
      rw [List.setIfInBounds_toArray, HBC.out, e68] at b1
      have k1 : Keep (fun k => k = g) wr (wr.setCell ⟨g, 68, none⟩ (.slice la ln lc)) := Keep.set (X := fun k => k = g) (Keep.refl _ wr) (p := ⟨g, 68, none⟩) (.inl rfl) _
      have b2 := k1.blk bg2 (by omega)
      have hb1 : Below g w (wr.setCell ⟨g, 68, none⟩ (.slice la ln lc)) := KW.out.setCell (p := ⟨g, 68, none⟩) (Nat.le_refl _) _
      have hs1 := k1.size
      have hat1 := hsat.keep k1 (fun b hb e => by rw [e] at hb; omega)
      have hCl : (blkCs ⟨hd, ⟨la, ln, lc, lx⟩⟩).toArray.size = 69 := blk_size _
      have hCi := blkInfoO ⟨hd, ⟨la, ln, lc, lx⟩⟩
      have hCo := arr_one (blkCs_one ⟨hd, ⟨la, ln, lc, lx⟩⟩)
      obtain ⟨CC, hCC⟩ : ∃ CC, CC = blkCs ⟨hd, ⟨la, ln, lc, lx⟩⟩ := ⟨_, rfl⟩
      rw [← hCC] at b1 hCl hCi hCo
      have HCC := Lib.hid (And.intro hCC (And.intro heq hat1))
      clear hCC heq hat1 hsat hsx hsn bg1 bg2 e68
      go_upto_region 8 with fail
      clear cg fg
      generalize wr.setCell ⟨g, 68, none⟩ (.slice la ln lc) = w1 at *
      have hr1 := cells_range (w := w1) (b := g) (o := 0) (cs := CC) (fun t ht => by rw [Nat.zero_add, b1.cell, List.getElem?_toArray])
      have b3 := b2.setAll CC.toArray (by rw [hCl]; kernel_rfl)
      have k3 := Keep.setCells (X := fun k => k = g + 1) (g := g + 1) (.inl rfl) CC.toArray.toList 0 (Keep.refl _ w1)
      go_wp2_with (first | (refine wpList_load_mid rfl 41 (.tmp 1) rfl g 0 rfl CC _ hr1 Try.underlying41 rfl hCi ?_) | (refine wpl_store rfl 41 (.tmp 2) (.tmp 21) rfl rfl rfl b2 (by rw [hCl]; kernel_rfl) (by rw [List.size_toArray]; exact hCi) hCo ?_))
      have hbf := hb1.trans (k3.below (B := g) (by rw [← hgw]; exact hb1.size) (fun k e => by rw [e]; omega))
      have hs3 := k3.size
      generalize w1.setCells (g + 1) 0 CC = wf at *
      refine bodyPost_ret (results_cell_row Try.results19 _ wf (g + 1) 41 CC.toArray (0, 0) _ rfl b3 Try.underlying41 rfl (by rw [List.size_toArray]; exact hCi)) rfl ⟨⟨hd, ⟨la, ln, lc, lx⟩⟩, by rw [HCC.out.1], HCC.out.2.1, ⟨hHB.out.1, ?_⟩, by first | exact hbf | (rw [hgw]; exact hbf)⟩
      exact (HCC.out.2.2.keep k3 (fun b hb e => by rw [e] at hb; omega)).mono (fun b hb => ⟨by omega, by omega⟩)
end Go.Proofs.Ytppcccocnmhbgaa
