/- SHA-256, the program's: sha.Sum, Double. -/
import Derived.Test.YtppcccocnmhbgaaDoorSha7
namespace Go.Proofs.YtppcccocnmhbgaaDoor
open Go Go.RowKit
set_option linter.unusedSimpArgs false
set_option linter.unusedVariables false
set_option maxRecDepth 100000

/-- a hash's bytes -/
def hbytes (n : Nat) : List Int := (List.range 32).map fun j => byt n j
theorem hbytes_length (n : Nat) : (hbytes n).length = 32 := by simp [hbytes]
theorem hbytes_range (n : Nat) : ∀ y ∈ hbytes n, 0 ≤ y ∧ y ≤ 255 := by
  intro y hy
  obtain ⟨j, _, rfl⟩ := List.mem_map.1 hy
  have := byt_range n j
  omega
theorem hbytes_in {w : World} {g n : Nat} {t : TypeId} (h : Blk w g (hcs n) t) : Lib.BytesIn w (some ⟨g, 0, none⟩) (hbytes n).length (hbytes n) := Lib.BytesIn.of_cells fun i hi => by
  rw [hbytes_length] at hi
  rw [Addr.add_lit, Nat.zero_add, h.cell, hcs_get n i hi, List.getD_eq_getElem?_getD]
  simp [hbytes, hi]
/-- SHA-256 twice -/
def dblN (bs : List Int) : Nat := shaN (hbytes (shaN bs))
theorem shaN_lt (bs : List Int) : shaN bs < W256 := hnum_lt _ 32 (fun i _ => by have := hashByte_lt (blocksS (padS bs) ((padS bs).length / 64)) i; omega)
set_option maxHeartbeats 3200000 in
theorem psha (ys : List Int) (q : Option Addr) (c : Nat) (w : World) (G : Glob w) (hy : Lib.BytesIn w q ys.length ys) (hr : ∀ y ∈ ys, 0 ≤ y ∧ y ≤ 255) (hc : ys.length ≤ c) (hn : ys.length < 1152921504606846976) :
    Calls Tryd.prog 14 #[.slice q ys.length c] w fun e w' => e = .returned (hv (shaN ys)) ∧ Below w.heap.size w w' := by
  have K0 := (Below.refl w.heap.size w).alloc (Nat.le_refl _) (.cells #[.int .u8 0, .int .u8 0, .int .u8 0, .int .u8 0, .int .u8 0, .int .u8 0, .int .u8 0, .int .u8 0, .int .u8 0, .int .u8 0, .int .u8 0, .int .u8 0, .int .u8 0, .int .u8 0, .int .u8 0, .int .u8 0, .int .u8 0, .int .u8 0, .int .u8 0, .int .u8 0, .int .u8 0, .int .u8 0, .int .u8 0, .int .u8 0, .int .u8 0, .int .u8 0, .int .u8 0, .int .u8 0, .int .u8 0, .int .u8 0, .int .u8 0, .int .u8 0] 24)
  have BR := Lib.hid (And.intro (Blk.new w #[.int .u8 0, .int .u8 0, .int .u8 0, .int .u8 0, .int .u8 0, .int .u8 0, .int .u8 0, .int .u8 0, .int .u8 0, .int .u8 0, .int .u8 0, .int .u8 0, .int .u8 0, .int .u8 0, .int .u8 0, .int .u8 0, .int .u8 0, .int .u8 0, .int .u8 0, .int .u8 0, .int .u8 0, .int .u8 0, .int .u8 0, .int .u8 0, .int .u8 0, .int .u8 0, .int .u8 0, .int .u8 0, .int .u8 0, .int .u8 0, .int .u8 0, .int .u8 0] 24) K0)
  have G0 := G.below K0
  have HY := Lib.hid (bytes_keep hy (Keep.of_below (X := fun _ => False) K0) (fun _ _ _ h => h))
  have hg0 := cell_lt (G.1 0 (by decide))
  have hg1 := cell_lt (G.2 0 (by decide))
  have PN := Lib.hid (psnew _ G0)
  have HG0 := Lib.hid G0
  have HR := Lib.hid hr
  have HQ := Lib.hid (bytes_lt hy)
  have hs0 : (w.alloc (.cells #[.int .u8 0, .int .u8 0, .int .u8 0, .int .u8 0, .int .u8 0, .int .u8 0, .int .u8 0, .int .u8 0, .int .u8 0, .int .u8 0, .int .u8 0, .int .u8 0, .int .u8 0, .int .u8 0, .int .u8 0, .int .u8 0, .int .u8 0, .int .u8 0, .int .u8 0, .int .u8 0, .int .u8 0, .int .u8 0, .int .u8 0, .int .u8 0, .int .u8 0, .int .u8 0, .int .u8 0, .int .u8 0, .int .u8 0, .int .u8 0, .int .u8 0, .int .u8 0] 24)).heap.size = w.heap.size + 1 := by simp
  clear G K0 G0 hy hr
  go_enter Tryd.func14, Tryd.ntmps14
  go_upto_region 1 with fail
  generalize w.alloc (.cells #[.int .u8 0, .int .u8 0, .int .u8 0, .int .u8 0, .int .u8 0, .int .u8 0, .int .u8 0, .int .u8 0, .int .u8 0, .int .u8 0, .int .u8 0, .int .u8 0, .int .u8 0, .int .u8 0, .int .u8 0, .int .u8 0, .int .u8 0, .int .u8 0, .int .u8 0, .int .u8 0, .int .u8 0, .int .u8 0, .int .u8 0, .int .u8 0, .int .u8 0, .int .u8 0, .int .u8 0, .int .u8 0, .int .u8 0, .int .u8 0, .int .u8 0, .int .u8 0] 24) = w0 at *
  generalize hgw : w.heap.size = rb at *
  go_wp2_with fail
  refine PN.out.mono ?_
  rintro e w1 ⟨rfl, hB1, hb1⟩
  rw [hs0] at hB1
  have PW := Lib.hid (pswrite (rb + 1) [] ys q c w1 (HG0.out.below hb1) ⟨by show rb + 1 ≠ 0; have : 0 < rb := hg0; omega, by show rb + 1 ≠ 1; have : 1 < rb := hg1; omega⟩ ⟨s0, fun _ => 0, hB1, HS.nil⟩ (bytes_keep HY.out (Keep.of_below (X := fun _ => False) hb1) (fun _ _ _ h => h)) HR.out hc (fun h0 p hp => by have := HQ.out h0 p hp; omega) (by simp; omega))
  have HB1 := Lib.hid hb1
  rw [hs0]
  clear hB1 hb1
  go_wp2_with fail
  refine PW.out.mono ?_
  rintro e w2 ⟨rfl, hH, hk⟩
  rw [List.nil_append] at hH
  have k02 : Keep (fun g => g = rb + 1) w0 w2 := (Keep.of_below HB1.out).trans hk
  have K2 := Lib.hid k02
  have PS := Lib.hid (pssum (rb + 1) ys w2 (HG0.out.keep' k02 ⟨by have : 0 < rb := hg0; omega, by have : 1 < rb := hg1; omega⟩) hH hn)
  clear hH hk k02
  go_wp2_with fail
  refine PS.out.mono ?_
  rintro e w3 ⟨rfl, hb3⟩
  have k3 : Keep (fun g => g = rb + 1) w0 w3 := K2.out.trans (Keep.of_below hb3)
  have br := k3.blk BR.out.1 (by omega)
  have K3 := Lib.hid k3
  clear k3 hb3
  go_wp2_with (refine wpl_store rfl 24 (.tmp 2) (.tmp 9) rfl rfl rfl br (by rw [hcs_size]; rfl) (by rw [hcs_size]; kernel_rfl) (hcs_one _) ?_)
  have bf := br.setAll (hcs (shaN ys)) (by rw [hcs_size]; rfl)
  have b0 := BR.out.2
  have b1 := b0.trans (K3.out.below (by rw [← hgw]; exact b0.size) (fun g h => by rw [h]; omega))
  have b2 := below_setCells (B := rb) (g := rb) (Nat.le_refl _) (hcs (shaN ys)).toList 0 w3 b1
  exact bodyPost_ret (v := hv (shaN ys)) (results_blk Tryd.results14 _ _ rfl bf Tryd.underlying24 (by rw [hcs_size]; kernel_rfl)) rfl ⟨rfl, by rw [hgw]; exact b2⟩
/-- a variable of type api.Hash, new, is given a value -/
theorem storeH (n : Nat) (w : World) : (storeCells ⟨w.heap.size, 0, none⟩ (hcs n).toList).run Tryd.prog (w.alloc (.cells #[.int .u8 0, .int .u8 0, .int .u8 0, .int .u8 0, .int .u8 0, .int .u8 0, .int .u8 0, .int .u8 0, .int .u8 0, .int .u8 0, .int .u8 0, .int .u8 0, .int .u8 0, .int .u8 0, .int .u8 0, .int .u8 0, .int .u8 0, .int .u8 0, .int .u8 0, .int .u8 0, .int .u8 0, .int .u8 0, .int .u8 0, .int .u8 0, .int .u8 0, .int .u8 0, .int .u8 0, .int .u8 0, .int .u8 0, .int .u8 0, .int .u8 0, .int .u8 0] 24)) = .ok () (w.alloc (.cells (hcs n) 24)) :=
  store_new w _ _ _ (by rw [hcs_size]; rfl) (hcs_one n)
set_option maxHeartbeats 3200000 in
theorem pdouble (ys : List Int) (q : Option Addr) (c : Nat) (w : World) (G : Glob w) (hy : Lib.BytesIn w q ys.length ys) (hr : ∀ y ∈ ys, 0 ≤ y ∧ y ≤ 255) (hc : ys.length ≤ c) (hn : ys.length < 1152921504606846976) :
    Calls Tryd.prog 9 #[.slice q ys.length c] w fun e w' => e = .returned (hv (dblN ys)) ∧ Below w.heap.size w w' := by
  have K0 := (Below.refl w.heap.size w).alloc (Nat.le_refl _) (.cells #[.int .u8 0, .int .u8 0, .int .u8 0, .int .u8 0, .int .u8 0, .int .u8 0, .int .u8 0, .int .u8 0, .int .u8 0, .int .u8 0, .int .u8 0, .int .u8 0, .int .u8 0, .int .u8 0, .int .u8 0, .int .u8 0, .int .u8 0, .int .u8 0, .int .u8 0, .int .u8 0, .int .u8 0, .int .u8 0, .int .u8 0, .int .u8 0, .int .u8 0, .int .u8 0, .int .u8 0, .int .u8 0, .int .u8 0, .int .u8 0, .int .u8 0, .int .u8 0] 24)
  have BR := Lib.hid (And.intro (Blk.new w #[.int .u8 0, .int .u8 0, .int .u8 0, .int .u8 0, .int .u8 0, .int .u8 0, .int .u8 0, .int .u8 0, .int .u8 0, .int .u8 0, .int .u8 0, .int .u8 0, .int .u8 0, .int .u8 0, .int .u8 0, .int .u8 0, .int .u8 0, .int .u8 0, .int .u8 0, .int .u8 0, .int .u8 0, .int .u8 0, .int .u8 0, .int .u8 0, .int .u8 0, .int .u8 0, .int .u8 0, .int .u8 0, .int .u8 0, .int .u8 0, .int .u8 0, .int .u8 0] 24) K0)
  have G0 := G.below K0
  have hs0 : (w.alloc (.cells #[.int .u8 0, .int .u8 0, .int .u8 0, .int .u8 0, .int .u8 0, .int .u8 0, .int .u8 0, .int .u8 0, .int .u8 0, .int .u8 0, .int .u8 0, .int .u8 0, .int .u8 0, .int .u8 0, .int .u8 0, .int .u8 0, .int .u8 0, .int .u8 0, .int .u8 0, .int .u8 0, .int .u8 0, .int .u8 0, .int .u8 0, .int .u8 0, .int .u8 0, .int .u8 0, .int .u8 0, .int .u8 0, .int .u8 0, .int .u8 0, .int .u8 0, .int .u8 0] 24)).heap.size = w.heap.size + 1 := by simp
  have PS := Lib.hid (psha ys q c _ G0 (bytes_keep hy (Keep.of_below (X := fun _ => False) K0) (fun _ _ _ h => h)) hr hc hn)
  have HG0 := Lib.hid G0
  clear G K0 G0 hy hr
  go_enter Tryd.func9, Tryd.ntmps9
  go_upto_region 1 with fail
  generalize w.alloc (.cells #[.int .u8 0, .int .u8 0, .int .u8 0, .int .u8 0, .int .u8 0, .int .u8 0, .int .u8 0, .int .u8 0, .int .u8 0, .int .u8 0, .int .u8 0, .int .u8 0, .int .u8 0, .int .u8 0, .int .u8 0, .int .u8 0, .int .u8 0, .int .u8 0, .int .u8 0, .int .u8 0, .int .u8 0, .int .u8 0, .int .u8 0, .int .u8 0, .int .u8 0, .int .u8 0, .int .u8 0, .int .u8 0, .int .u8 0, .int .u8 0, .int .u8 0, .int .u8 0] 24) = w0 at *
  generalize hgw : w.heap.size = rb at *
  go_wp2_with fail
  refine PS.out.mono ?_
  rintro e w1 ⟨rfl, hb1⟩
  have hst := storeH (shaN ys) w1
  have K1 := (Below.refl w1.heap.size w1).alloc (Nat.le_refl _) (.cells (hcs (shaN ys)) 24)
  have B1 := Blk.new w1 (hcs (shaN ys)) 24
  have KK := hb1.trans (K1.mono hb1.size)
  have hl := hbytes_length (shaN ys)
  have BY := hbytes_in B1
  have PT := psha (hbytes (shaN ys)) (some ⟨w1.heap.size, 0, none⟩) 32 _ (HG0.out.below KK) BY (hbytes_range _) (by omega) (by omega)
  rw [hl] at PT
  have PT := Lib.hid PT
  have KK := Lib.hid KK
  clear K1 B1 hb1 BY hl
  go_upto_region 2 with fail
  generalize w1.alloc (.cells (hcs (shaN ys)) 24) = w2 at *
  clear hst
  go_wp2_with fail
  refine PT.out.mono ?_
  rintro e w3 ⟨rfl, hb3⟩
  have k3 := KK.out.trans (hb3.mono KK.out.size)
  have br := BR.out.1.beyond k3
  have K3 := Lib.hid k3
  clear k3 hb3
  go_wp2_with (refine wpl_store rfl 24 (.tmp 2) (.tmp 7) rfl rfl rfl br (by rw [hcs_size]; rfl) (by rw [hcs_size]; kernel_rfl) (hcs_one _) ?_)
  have bf := br.setAll (hcs (dblN ys)) (by rw [hcs_size]; rfl)
  have b0 := BR.out.2
  have b1 := b0.trans (K3.out.mono (by rw [← hgw]; exact b0.size))
  have b2 := below_setCells (B := rb) (g := rb) (Nat.le_refl _) (hcs (dblN ys)).toList 0 w3 b1
  exact bodyPost_ret (v := hv (dblN ys)) (results_blk Tryd.results9 _ _ rfl bf Tryd.underlying24 (by rw [hcs_size]; kernel_rfl)) rfl ⟨rfl, by rw [hgw]; exact b2⟩
end Go.Proofs.YtppcccocnmhbgaaDoor
