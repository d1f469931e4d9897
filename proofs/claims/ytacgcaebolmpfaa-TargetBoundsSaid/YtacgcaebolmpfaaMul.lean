/- The walk of the program's product. -/
import Derived.Test.YtacgcaebolmpfaaMulBase
import Derived.Test.YtacgcaebolmpfaaDiv
import Derived.Test.YtacgcaebolmpfaaHash
import Derived.Test.YtacgcaebolmpfaaShelf
import Derived.Laws.Cover3
namespace Go.Proofs.Ytacgcaebolmpfaa
open Go.RowKit
set_option linter.unusedSimpArgs false

theorem add64n (x y : Nat) (hx : x < 18446744073709551616) (hy : y < 18446744073709551616) : ∃ s c : Nat, s + c * 2 ^ 64 = x + y ∧ s < 2 ^ 64 ∧ c ≤ 1 ∧
    ∀ w, (callFunc 42 #[.int .u64 (x : Int), .int .u64 (y : Int), .int .u64 0]).run Try.prog w = .ok (.value (.tuple #[.int .u64 (s : Int), .int .u64 (c : Int)])) w := by
  refine ⟨(x + y) % 2 ^ 64, (x + y) / 2 ^ 64, by omega, by omega, by omega, fun w => ?_⟩
  rw [run_callFunc_extern Try.func42 (by kernel_rfl) (by kernel_rfl) (by kernel_rfl) (e := add64Entry) (by kernel_rfl), run_add64 _ _ _ (by omega) (by omega) (by omega) (by omega)]
  simp only [Result.andThen]
  congr 5 <;> omega

theorem wix (n k : Nat) (hk : k < 4) (w : World) : (Instr.index 25 (.agg #[.int .u64 (wd n 0), .int .u64 (wd n 1), .int .u64 (wd n 2), .int .u64 (wd n 3)]) (.int .i64 (k : Int))).run Try.prog w = .ok (.int .u64 (wd n k)) w :=
  run_index_arr 25 23 4 k (wcs n) (.int .u64 (wd n k)) w Try.underlying25 isAgg_u64 sizeOf_u64 hk (wd_of n k hk)

set_option maxRecDepth 100000 in
set_option maxHeartbeats 1600000 in
theorem wmul (a b : Nat) (w : World) (ha : a < W256) (hb : b < W256) :
    Calls Try.prog 37 #[wv a, wv b] w fun e w' => e = .returned (.tuple #[wv (a * b % W256), .bool (decide (W256 ≤ a * b))]) ∧ Below w.heap.size w w' := by
  have L := (St.new3' w (wcs a) (wcs b) (wcs 0) 25 25 25).new (c8 0) 57
  rw [show (((w.alloc (.cells (wcs a) 25)).alloc (.cells (wcs b) 25)).alloc (.cells (wcs 0) 25)).heap.size = w.heap.size + 1 + 1 + 1 from by simp, wc_zero, c8_zero] at L
  go_enter Try.func37, Try.ntmps37
  go_upto_region 2 with fail
  generalize (((w.alloc (.cells #[.int .u64 (wd a 0), .int .u64 (wd a 1), .int .u64 (wd a 2), .int .u64 (wd a 3)] 25)).alloc (.cells #[.int .u64 (wd b 0), .int .u64 (wd b 1), .int .u64 (wd b 2), .int .u64 (wd b 3)] 25)).alloc (.cells #[.int .u64 0, .int .u64 0, .int .u64 0, .int .u64 0] 25)).alloc (.cells #[.int .u64 0, .int .u64 0, .int .u64 0, .int .u64 0, .int .u64 0, .int .u64 0, .int .u64 0, .int .u64 0] 57) = v at *
  rw [← wc_zero, ← c8_zero] at L
  have AB := L.at (b := w.heap.size) (c := wcs a) (t := 25) (by simp)
  have a1 := AB.cell
  go_wp2
  clear AB a1
  go_loopg [16] 4 (fun m i wx => ∃ (P k : Nat), k ≤ 4 ∧ i = .int .i64 k ∧ m = 4 - k ∧ Hid (P = a % 2 ^ (64 * k) * b) ∧ St w.heap.size w wx [(w.heap.size + 1 + 1 + 1, c8 P, 57), (w.heap.size + 1 + 1, wcs 0, 25), (w.heap.size + 1, wcs b, 25), (w.heap.size, wcs a, 25)])
  case atStart => exact ⟨0, 0, by omega, rfl, rfl, mul_zero_row a b, L⟩
  case round =>
    clear L
    obtain ⟨P, i, hi4, rfl, rfl, H, L⟩ := hrel
    by_cases hlt : i < 4
    · have BB := L.at (b := w.heap.size + 1) (c := wcs b) (t := 25) (by simp)
      have b1 := BB.cell
      have g0 := wix a i hlt
      have hd : decide ((i : Int) < 4) = true := by rw [decide_eq_true_eq]; omega
      go_wp2
      clear BB b1 g0 hd
      go_loopg [9, 21] 4 (fun m c k wx => ∃ (P c' k' : Nat), k' ≤ 4 ∧ k = .int .i64 k' ∧ c = .int .u64 (c' : Int) ∧ m = 4 - k' ∧ Hid (MulInv a b i k' P c') ∧ St w.heap.size w wx [(w.heap.size + 1 + 1 + 1, c8 P, 57), (w.heap.size + 1 + 1, wcs 0, 25), (w.heap.size + 1, wcs b, 25), (w.heap.size, wcs a, 25)])
      case atStart => exact ⟨P, 0, 0, by omega, rfl, rfl, rfl, mul_start a b i P H.out (by rw [W256_eq] at hb; exact hb), L⟩
      case round =>
        clear L H
        obtain ⟨P, c, k, hk4, rfl, rfl, rfl, H, L⟩ := hrel
        by_cases hk : k < 4
        · have g1 := wix b k hk
          go_wp2_with fail
          refine (Try.bits_Mul64 (wn a i) (wn b k) (wn_lt _ _) (wn_lt _ _) _).mono ?_
          rintro e w1 ⟨rfl, hw1⟩
          obtain rfl := hw1
          clear g1
          have hh := Nat.div_add_mod (wn a i * wn b k) 18446744073709551616
          have hl2 := Nat.mod_lt (wn a i * wn b k) (show 18446744073709551616 > 0 by decide)
          generalize wn a i * wn b k / 18446744073709551616 = h at *
          generalize wn a i * wn b k % 18446744073709551616 = l at *
          have HH := Lib.hid hh
          clear hh
          obtain ⟨s1, c1, e1, l1, d1, A1⟩ := add64n l c hl2 H.out.2.2
          obtain ⟨s2, c2, e2, l2, d2, A2⟩ := add64n (wn P (i + k)) s1 (wn_lt _ _) l1
          have E1 := Lib.hid e1
          have E2 := Lib.hid e2
          clear e1 e2
          have PB := L.at (b := w.heap.size + 1 + 1 + 1) (c := c8 P) (t := 57) (by simp)
          have p0 : w1.cell? ⟨w.heap.size + 1 + 1 + 1, i + k, none⟩ = some (.int .u64 (wn P (i + k) : Int)) := by rw [PB.cell, c8_get _ _ (by omega)]; rfl
          have p1 := PB.free (i + k)
          have hs1 := H.out.1
          have hx : wn a i * wn b k ≤ 18446744073709551615 * 18446744073709551615 := Nat.mul_le_mul (by have := wn_lt a i; omega) (by have := wn_lt b k; omega)
          have hw1 : h + c1 < 18446744073709551616 := by have := HH.out; omega
          have hw2 : h + c1 + c2 < 18446744073709551616 := by have := HH.out; have := E1.out; have := E2.out; have := H.out.2.2; have := wn_lt P (i + k); clear hs1; omega
          have i1 : IntKind.u64.wrap ((h : Int) + c1) = (h : Int) + c1 := by rw [← Int.natCast_add, u64_small _ hw1]
          have i2 : IntKind.u64.wrap ((h : Int) + c1 + c2) = (h : Int) + c1 + c2 := by rw [← Int.natCast_add, ← Int.natCast_add, u64_small _ hw2]
          have HM := mul_step H.out hk (by have := HH.out; rw [Nat.mul_comm]; exact this) E1.out E2.out l2
          have HM2 := Lib.hid HM
          clear hs1 hx hw1 hw2 PB HM
          go_wp2
          replace L := L.set (by omega) (by simp <;> omega) (i + k) (.int .u64 (s2 : Int))
          rw [setw_cells _ _ _ l2] at L
          clear p0 p1 A1 A2 i1 i2
          go_roundg (4 - (k + 1))
          case measure => omega
          case rel => exact ⟨setw P (i + k) s2, h + c1 + c2, k + 1, by omega, by go_num, by rw [Int.natCast_add, Int.natCast_add], rfl, HM2.out, L⟩
        · obtain rfl : k = 4 := by omega
          have PB := L.at (b := w.heap.size + 1 + 1 + 1) (c := c8 P) (t := 57) (by simp)
          have p0 : wr.cell? ⟨w.heap.size + 1 + 1 + 1, i + 4, none⟩ = some (.int .u64 (wn P (i + 4) : Int)) := by rw [PB.cell, c8_get _ _ (by omega)]; rfl
          have p1 := PB.free (i + 4)
          have HR := Lib.hid (mul_row H.out (by rw [W256_eq] at hb; exact hb))
          have hc := H.out.2.2
          clear PB
          go_wp2
          replace L := L.set (by omega) (by simp <;> omega) (i + 4) (.int .u64 (c : Int))
          rw [setw_cells _ _ _ hc] at L
          clear p0 p1
          go_roundg (4 - (i + 1))
          case measure => omega
          case rel => exact ⟨setw P (i + 4) c, i + 1, by omega, by go_num, rfl, HR.out, L⟩
    · obtain rfl : i = 4 := by omega
      have hP := mul_last a b P (by rw [W256_eq] at ha; exact ha) H.out
      subst hP
      clear H
      have h512 := mul_lt512 a b ha hb
      have hz := high_zero (a * b) h512
      have qn : ∀ w, (binOp .neq 24 (.agg #[.int .u64 (wd (a * b) 4), .int .u64 (wd (a * b) 5), .int .u64 (wd (a * b) 6), .int .u64 (wd (a * b) 7)]) (.agg #[.int .u64 0, .int .u64 0, .int .u64 0, .int .u64 0])).run Try.prog w = .ok (.bool (decide (W256 ≤ a * b))) w := by
        intro w
        have := run_neq_ints (P := Try.prog) 24 23 4 .u64 .u64 #[.int .u64 (wd (a * b) 4), .int .u64 (wd (a * b) 5), .int .u64 (wd (a * b) 6), .int .u64 (wd (a * b) 7)] #[.int .u64 0, .int .u64 0, .int .u64 0, .int .u64 0] (fun i => wd (a * b) (4 + i)) (fun _ => 0) w Try.underlying24 Try.underlying23 isAgg_u64 sizeOf_u64
          (by intro i h; rcases (by omega : i = 0 ∨ i = 1 ∨ i = 2 ∨ i = 3) with h | h | h | h <;> subst h <;> rfl) (by intro i h; rcases (by omega : i = 0 ∨ i = 1 ∨ i = 2 ∨ i = 3) with h | h | h | h <;> subst h <;> rfl)
        rw [this, hz, W256_eq]
        congr 2
        by_cases h : a * b < 2 ^ 256
        · rw [decide_eq_true h, decide_eq_false (by omega)]; rfl
        · rw [decide_eq_false h, decide_eq_true (by omega)]; rfl
      clear hz h512
      have PB := L.at (b := w.heap.size + 1 + 1 + 1) (c := c8 (a * b)) (t := 57) (by simp)
      have p0 : wr.cell? ⟨w.heap.size + 1 + 1 + 1, 0, none⟩ = some (.int .u64 (wd (a * b) 0)) := by rw [PB.cell, c8_get _ _ (by decide)]
      have p1 : wr.cell? ⟨w.heap.size + 1 + 1 + 1, 1, none⟩ = some (.int .u64 (wd (a * b) 1)) := by rw [PB.cell, c8_get _ _ (by decide)]
      have p2 : wr.cell? ⟨w.heap.size + 1 + 1 + 1, 2, none⟩ = some (.int .u64 (wd (a * b) 2)) := by rw [PB.cell, c8_get _ _ (by decide)]
      have p3 : wr.cell? ⟨w.heap.size + 1 + 1 + 1, 3, none⟩ = some (.int .u64 (wd (a * b) 3)) := by rw [PB.cell, c8_get _ _ (by decide)]
      have p4 : wr.cell? ⟨w.heap.size + 1 + 1 + 1, 4, none⟩ = some (.int .u64 (wd (a * b) 4)) := by rw [PB.cell, c8_get _ _ (by decide)]
      have p5 : wr.cell? ⟨w.heap.size + 1 + 1 + 1, 5, none⟩ = some (.int .u64 (wd (a * b) 5)) := by rw [PB.cell, c8_get _ _ (by decide)]
      have p6 : wr.cell? ⟨w.heap.size + 1 + 1 + 1, 6, none⟩ = some (.int .u64 (wd (a * b) 6)) := by rw [PB.cell, c8_get _ _ (by decide)]
      have p7 : wr.cell? ⟨w.heap.size + 1 + 1 + 1, 7, none⟩ = some (.int .u64 (wd (a * b) 7)) := by rw [PB.cell, c8_get _ _ (by decide)]
      have R := L.at (b := w.heap.size + 1 + 1) (c := wcs 0) (t := 25) (by simp)
      have r1 := R.cell
      have r2 := R.free
      rw [wc_zero] at r1
      clear PB R
      have s1 : ∀ w', (Instr.arrayAt 25 (.slice (some ⟨w.heap.size + 1 + 1 + 1, 0, none⟩) 4 8)).run Try.prog w' = .ok (.pointer (some ⟨w.heap.size + 1 + 1 + 1, 0, none⟩)) w' := fun w' => run_arrayAt w' 25 23 4 _ 4 8 Try.underlying25 (by decide)
      have s2 : ∀ w', (Instr.arrayAt 24 (.slice (some ⟨w.heap.size + 1 + 1 + 1, 4, none⟩) 4 4)).run Try.prog w' = .ok (.pointer (some ⟨w.heap.size + 1 + 1 + 1, 4, none⟩)) w' := fun w' => run_arrayAt w' 24 23 4 _ 4 4 Try.underlying24 (by decide)
      go_upto_region 18 with fail
      go_region
      clear p0 p1 p2 p3 p4 p5 p6 p7 r1 r2 s1 s2 qn
      rw [show wd (a * b) 0 = wd (a * b % W256) 0 from (wd_W _ _ (by decide)).symm, show wd (a * b) 1 = wd (a * b % W256) 1 from (wd_W _ _ (by decide)).symm, show wd (a * b) 2 = wd (a * b % W256) 2 from (wd_W _ _ (by decide)).symm, show wd (a * b) 3 = wd (a * b % W256) 3 from (wd_W _ _ (by decide)).symm]
      have L1 := ((L.perm (l' := [(w.heap.size + 1 + 1, wcs 0, 25)]) (by simp)).put (n := a * b % W256) (by omega) (by simp)).drew
      have c4 := (L1.at (b := w.heap.size + 1 + 1) (c := wcs (a * b % W256)) (t := 25) (by simp)).cell
      clear L
      generalize hov : decide (W256 ≤ a * b) = ov at *
      generalize hq : a * b % W256 = q at *
      have HO := Lib.hid hov
      have HQ := Lib.hid hq
      clear hov hq
      go_wp2
      exact bodyPost_ret (v := .tuple #[wv q, .bool ov]) (by simp [results, Try.results37, go_sem, c4]) rfl ⟨by rw [HO.out, HQ.out], L1.below⟩
end Go.Proofs.Ytacgcaebolmpfaa
