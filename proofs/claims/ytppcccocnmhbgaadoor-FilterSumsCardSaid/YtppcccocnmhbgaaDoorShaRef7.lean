/- SHA-256, the document's: Double. -/
import Derived.Test.YtppcccocnmhbgaaDoorShaRef6
namespace Go.Proofs.YtppcccocnmhbgaaDoor
open Go Go.RowKit
set_option linter.unusedSimpArgs false
set_option linter.unusedVariables false
set_option maxRecDepth 100000

set_option maxHeartbeats 3200000 in
theorem rdouble (ys : List Int) (q : Option Addr) (c : Nat) (w : World) (hy : Lib.BytesIn w q ys.length ys) (hr : ∀ y ∈ ys, 0 ≤ y ∧ y ≤ 255) (hn : ys.length ≤ 140737488355200) :
    Calls Tryd.prog 10 #[.slice q ys.length c] w fun e w' => e = .returned (hv (dblN ys)) ∧ Below w.heap.size w w' := by
  have K0 := (Below.refl w.heap.size w).alloc (Nat.le_refl _) (.cells #[.int .u8 0, .int .u8 0, .int .u8 0, .int .u8 0, .int .u8 0, .int .u8 0, .int .u8 0, .int .u8 0, .int .u8 0, .int .u8 0, .int .u8 0, .int .u8 0, .int .u8 0, .int .u8 0, .int .u8 0, .int .u8 0, .int .u8 0, .int .u8 0, .int .u8 0, .int .u8 0, .int .u8 0, .int .u8 0, .int .u8 0, .int .u8 0, .int .u8 0, .int .u8 0, .int .u8 0, .int .u8 0, .int .u8 0, .int .u8 0, .int .u8 0, .int .u8 0] 24)
  have BR := Lib.hid (And.intro (Blk.new w #[.int .u8 0, .int .u8 0, .int .u8 0, .int .u8 0, .int .u8 0, .int .u8 0, .int .u8 0, .int .u8 0, .int .u8 0, .int .u8 0, .int .u8 0, .int .u8 0, .int .u8 0, .int .u8 0, .int .u8 0, .int .u8 0, .int .u8 0, .int .u8 0, .int .u8 0, .int .u8 0, .int .u8 0, .int .u8 0, .int .u8 0, .int .u8 0, .int .u8 0, .int .u8 0, .int .u8 0, .int .u8 0, .int .u8 0, .int .u8 0, .int .u8 0, .int .u8 0] 24) K0)
  have hs0 : (w.alloc (.cells #[.int .u8 0, .int .u8 0, .int .u8 0, .int .u8 0, .int .u8 0, .int .u8 0, .int .u8 0, .int .u8 0, .int .u8 0, .int .u8 0, .int .u8 0, .int .u8 0, .int .u8 0, .int .u8 0, .int .u8 0, .int .u8 0, .int .u8 0, .int .u8 0, .int .u8 0, .int .u8 0, .int .u8 0, .int .u8 0, .int .u8 0, .int .u8 0, .int .u8 0, .int .u8 0, .int .u8 0, .int .u8 0, .int .u8 0, .int .u8 0, .int .u8 0, .int .u8 0] 24)).heap.size = w.heap.size + 1 := by simp
  have PS := Lib.hid (rsha ys q c _ (bytes_keep hy (Keep.of_below (X := fun _ => False) K0) (fun _ _ _ h => h)) hr hn)
  clear K0 hy hr
  go_enter Tryd.func10, Tryd.ntmps10
  go_upto_region 1 with fail
  generalize w.alloc (.cells #[.int .u8 0, .int .u8 0, .int .u8 0, .int .u8 0, .int .u8 0, .int .u8 0, .int .u8 0, .int .u8 0, .int .u8 0, .int .u8 0, .int .u8 0, .int .u8 0, .int .u8 0, .int .u8 0, .int .u8 0, .int .u8 0, .int .u8 0, .int .u8 0, .int .u8 0, .int .u8 0, .int .u8 0, .int .u8 0, .int .u8 0, .int .u8 0, .int .u8 0, .int .u8 0, .int .u8 0, .int .u8 0, .int .u8 0, .int .u8 0, .int .u8 0, .int .u8 0] 24) = w0 at *
  generalize hgw : w.heap.size = rb at *
  go_wp2_with fail
  refine PS.out.mono ?_
  rintro e w1 ⟨rfl, hb1⟩
  have hst := storeH (shaN ys) w1
  have K1 := (Below.refl w1.heap.size w1).alloc (Nat.le_refl _) (.cells (hcs (shaN ys)) 24)
  have B1 := Blk.new w1 (hcs (shaN ys)) 24
  have KK := hb1.trans (K1.mono hb1.size)
  have hl := hbytes_length (shaN ys)
  have BY := hbytes_in B1
  have PT := rsha (hbytes (shaN ys)) (some ⟨w1.heap.size, 0, none⟩) 32 _ BY (hbytes_range _) (by omega)
  rw [hl] at PT
  have PT := Lib.hid PT
  have KK := Lib.hid KK
  clear K1 B1 hb1 BY hl
  go_upto_region 2 with fail
  generalize w1.alloc (.cells (hcs (shaN ys)) 24) = w2 at *
  clear hst
  go_wp2_with fail
  refine PT.out.mono ?_
  rintro e w3 ⟨rfl, hb3⟩
  have k3 := KK.out.trans (hb3.mono KK.out.size)
  have br := BR.out.1.beyond k3
  have K3 := Lib.hid k3
  clear k3 hb3
  go_wp2_with (refine wpl_store rfl 24 (.tmp 2) (.tmp 7) rfl rfl rfl br (by rw [hcs_size]; rfl) (by rw [hcs_size]; kernel_rfl) (hcs_one _) ?_)
  have bf := br.setAll (hcs (dblN ys)) (by rw [hcs_size]; rfl)
  have b0 := BR.out.2
  have b1 := b0.trans (K3.out.mono (by rw [← hgw]; exact b0.size))
  have b2 := below_setCells (B := rb) (g := rb) (Nat.le_refl _) (hcs (dblN ys)).toList 0 w3 b1
  exact bodyPost_ret (v := hv (dblN ys)) (results_blk Tryd.results10 _ _ rfl bf Tryd.underlying24 (by rw [hcs_size]; kernel_rfl)) rfl ⟨rfl, by rw [hgw]; exact b2⟩
end Go.Proofs.YtppcccocnmhbgaaDoor
