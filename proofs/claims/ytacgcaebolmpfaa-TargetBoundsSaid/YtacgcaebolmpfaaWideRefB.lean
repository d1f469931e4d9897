/- The walks of the reference's numbers: Sub. -/
import Derived.Test.YtacgcaebolmpfaaWideRefA
namespace Go.Proofs.Ytacgcaebolmpfaa
open Go.RowKit

theorem W_pos : 0 < W256 := by rw [W256_eq]; exact Nat.two_pow_pos _
theorem mod_W (x : Nat) : x % W256 < W256 := Nat.mod_lt _ W_pos
theorem one_W : 1 < W256 := by rw [W256_eq]; decide
theorem wv_one : wv 1 = .agg #[.int .u64 1, .int .u64 0, .int .u64 0, .int .u64 0] := rfl
theorem rsub_eq (a b : Nat) (hb : b < W256) : ((a + (W256 - 1 - b)) % W256 + 1) % W256 = (a + W256 - b) % W256 := by rw [W256_eq] at *; omega

set_option maxRecDepth 100000 in
set_option maxHeartbeats 400000 in
theorem rsub (a b : Nat) (w : World) (ha : a < W256) (hb : b < W256) :
    Calls Try.prog 35 #[wv a, wv b] w fun e w' => e = .returned (.tuple #[wv ((a + W256 - b) % W256), .bool (decide (a < b))]) ∧ Below w.heap.size w w' := by
  have E1 := Lib.hid (rsub_eq a b hb)
  have en := cmpN_neg a b
  go_enter Try.func35, Try.ntmps35
  go_wp2_with fail
  have K0 := Blk.w3_0 w (wcs a) 25 (.cells (wcs b) 25) (.cells (wcs 0) 25)
  have K1 := Blk.w3_1 w (wcs b) 25 (.cells (wcs a) 25) (.cells (wcs 0) 25)
  have K2 := Blk.w3_2 w (wcs 0) 25 (.cells (wcs a) 25) (.cells (wcs b) 25)
  have KB := (((Below.refl w.heap.size w).alloc (Nat.le_refl _) (.cells (wcs a) 25)).alloc (by simp) (.cells (wcs b) 25)).alloc (by simp; omega) (.cells (wcs 0) 25)
  rw [wc_zero] at K0 K1 K2 KB
  generalize ((w.alloc (.cells (wcs a) 25)).alloc (.cells (wcs b) 25)).alloc (.cells #[.int .u64 0, .int .u64 0, .int .u64 0, .int .u64 0] 25) = w0 at *
  have c0 := K0.cell
  have c1 := K1.cell
  have l0 := K0.lt
  have l1 := K1.lt
  go_cut [6, 7] (fun s6 _ wx => ∃ g : Nat, s6 = .pointer (some ⟨g, 0, none⟩) ∧ w0.heap.size ≤ g ∧ Blk wx g (wcs ((a + (W256 - 1 - b)) % W256)) 25 ∧ Below w0.heap.size w0 wx)
  case first =>
    go_region_held3 (fun w' => Below w0.heap.size w0 w' ∧ (∀ b o, b < w0.heap.size → w'.cell? ⟨b, o, none⟩ = w0.cell? ⟨b, o, none⟩)) (first | exact SK.start w0 | exact SK.keep (by assumption) hw' | exact SK.alloc (by assumption) _ | exact SK.set (SK.set (SK.set (SK.set (by assumption) (by dsimp only; omega) _) (by dsimp only; omega) _) (by dsimp only; omega) _) (by dsimp only; omega) _)
      (first | (go_at_call 44; refine (rnot b _ hb).mono ?_; rintro e w' ⟨rfl, hw'⟩; have hS := SK.keep (by assumption) hw'; have hz1 := hS.1.size; obtain ⟨hcc, hff⟩ := bcell hw'; (try (have hz3 : w0.heap.size < w'.heap.size := (by (have hz2 := hw'.size); (simp at hz2); omega)))) | (go_at_call 34; refine (radd a _ _ ha (not_lt_W b)).mono ?_; rintro e w' ⟨rfl, hw'⟩; have hS := SK.keep (by assumption) hw'; have hz1 := hS.1.size; obtain ⟨hcc, hff⟩ := bcell hw') | fail)
    all_goals (rename_i hH; go_wp2_with fail; go_meet; refine ⟨_, rfl, ?_, ?_, hH.1⟩)
    all_goals try omega
    · exact Blk.new _ _ _
    · exact Blk.put0 ((Blk.new _ _ _).beyond hw')
    · exact Blk.put0 (((Blk.new w0 _ _).drew.beyond (by assumption)).beyond hw')
  case rest =>
    obtain ⟨g, rfl, hg, G, HB⟩ := hcut
    have hne : w.heap.size + 1 + 1 < g := Nat.lt_of_lt_of_le K2.lt hg
    replace K0 := K0.below HB l0
    replace K1 := K1.below HB l1
    replace K2 := K2.below HB K2.lt
    replace KB := KB.trans (HB.mono KB.size)
    clear HB c0 c1 l0 l1
    have c0 := G.cell
    go_wp2_with fail
    refine (radd _ 1 _ (mod_W _) one_W).mono ?_
    rintro e w1 ⟨rfl, hw1⟩
    rw [E1.out]
    replace K0 := K0.beyond hw1
    replace K1 := K1.beyond hw1
    replace K2 := K2.beyond hw1
    replace KB := KB.trans (hw1.mono KB.size)
    replace G := G.beyond hw1
    clear c0 hw1
    have c0 := G.cell
    have f0 := G.free
    go_wp2_with fail
    replace K0 := K0.putFar (g := g) (y0 := .int .u64 (wd ((a + W256 - b) % W256) 0)) (y1 := .int .u64 (wd ((a + W256 - b) % W256) 1)) (y2 := .int .u64 (wd ((a + W256 - b) % W256) 2)) (y3 := .int .u64 (wd ((a + W256 - b) % W256) 3)) (by omega)
    replace K1 := K1.putFar (g := g) (y0 := .int .u64 (wd ((a + W256 - b) % W256) 0)) (y1 := .int .u64 (wd ((a + W256 - b) % W256) 1)) (y2 := .int .u64 (wd ((a + W256 - b) % W256) 2)) (y3 := .int .u64 (wd ((a + W256 - b) % W256) 3)) (by omega)
    replace K2 := K2.putFar (g := g) (y0 := .int .u64 (wd ((a + W256 - b) % W256) 0)) (y1 := .int .u64 (wd ((a + W256 - b) % W256) 1)) (y2 := .int .u64 (wd ((a + W256 - b) % W256) 2)) (y3 := .int .u64 (wd ((a + W256 - b) % W256) 3)) (by omega)
    replace KB := below_put KB (g := g) (y0 := .int .u64 (wd ((a + W256 - b) % W256) 0)) (y1 := .int .u64 (wd ((a + W256 - b) % W256) 1)) (y2 := .int .u64 (wd ((a + W256 - b) % W256) 2)) (y3 := .int .u64 (wd ((a + W256 - b) % W256) 3)) (by omega)
    replace G := G.put (n := (a + W256 - b) % W256)
    generalize (((w1.setCell ⟨g, 0, none⟩ (.int .u64 (wd ((a + W256 - b) % W256) 0))).setCell ⟨g, 1, none⟩ (.int .u64 (wd ((a + W256 - b) % W256) 1))).setCell ⟨g, 2, none⟩ (.int .u64 (wd ((a + W256 - b) % W256) 2))).setCell ⟨g, 3, none⟩ (.int .u64 (wd ((a + W256 - b) % W256) 3)) = w2 at *
    clear c0 f0
    have c0 := K0.cell
    have c1 := K1.cell
    have c2 := K2.cell
    have f2 := K2.free
    have cg := G.cell
    have l0 := K0.lt
    have l1 := K1.lt
    have l2 := K2.lt
    have lg := G.lt
    go_cut [4, 5] (fun s4 s5 wx => s4 = .pointer (some ⟨w.heap.size + 1 + 1, 0, none⟩) ∧ s5 = .bool (decide (a < b)) ∧ Blk wx (w.heap.size + 1 + 1) (wcs ((a + W256 - b) % W256)) 25 ∧ Below w.heap.size w wx)
    case first =>
      have hk := Nat.ne_of_gt hne
      have hk0 : w.heap.size ≠ w.heap.size + 1 + 1 := by omega
      have hk1 : w.heap.size + 1 ≠ w.heap.size + 1 + 1 := by omega
      go_region_held3 (fun w' => BelowX (w.heap.size + 1 + 1) w2 w' ∧ (∀ b o, b < w2.heap.size → b ≠ w.heap.size + 1 + 1 → w'.cell? ⟨b, o, none⟩ = w2.cell? ⟨b, o, none⟩)) (first | exact SX.start _ w2 | exact SX.keep (by assumption) hw' | exact SX.put (by assumption)) (first | (go_at_call 14; refine (rcmp a b _ ha hb).mono ?_; rintro e w' ⟨rfl, hw'⟩; have c2' := (K2.drew.beyond hw').cell; have f2' := (K2.drew.beyond hw').free) | fail)
      rename_i hH
      go_wp2_with fail
      go_meet
      exact ⟨rfl, rfl, Blk.put0 (K2.drew.beyond hw'), hH.1.below KB KB.size (by omega)⟩
    case rest =>
      obtain ⟨rfl, rfl, R, RB⟩ := hcut
      have cr := R.cell
      go_wp2_with fail
      exact bodyPost_ret (v := .tuple #[wv ((a + W256 - b) % W256), .bool (decide (a < b))]) (by simp [results, Try.results35, go_sem, cr]) rfl ⟨rfl, RB⟩
end Go.Proofs.Ytacgcaebolmpfaa
