/- The walks of layer 4: Expand and Compact, the program's and the reference's. -/
import Derived.Test.YtacgcaebolmpfaaTgtBase
namespace Go.Proofs.Ytacgcaebolmpfaa
open Go.RowKit
set_option linter.unusedSimpArgs false

theorem tgt_def (b : Nat) : tgt b = if b / 2 ^ 23 % 2 = 1 then 0
  else if b / 2 ^ 24 < 3 then b % 2 ^ 23 / 2 ^ (8 * (3 - b / 2 ^ 24))
  else if 256 < blen (b % 2 ^ 23) + 8 * (b / 2 ^ 24 - 3) then 0
  else b % 2 ^ 23 * 2 ^ (8 * (b / 2 ^ 24 - 3)) := rfl

set_option maxRecDepth 100000 in
set_option maxHeartbeats 1600000 in
theorem wexpand (b : Nat) (w : World) (hb : b < 2 ^ 32) :
    Calls Try.prog 10 #[.int .u32 (b : Int)] w fun e w' => e = .returned (.tuple #[wv (tgt b), .int .i64 (tErr (tgt b))]) ∧ Below w.heap.size w w' := by
  have x1 := and_mant b hb
  have x2 := and_sign b hb
  have x3 : (b : Int) / 16777216 = ((b / 2 ^ 24 : Nat) : Int) := by omega
  have hT := tgt_def b
  have hm : b % 2 ^ 23 < 2 ^ 23 := Nat.mod_lt _ (by decide)
  have hs : b / 2 ^ 23 % 2 < 2 := Nat.mod_lt _ (by decide)
  have he : b / 2 ^ 24 < 256 := by omega
  have ht := tgt_lt b
  generalize tgt b = t at *
  generalize b % 2 ^ 23 = m at *
  generalize b / 2 ^ 23 % 2 = s at *
  generalize b / 2 ^ 24 = e at *
  by_cases hs1 : s = 1
  · subst hs1
    rw [if_pos rfl] at hT
    subst hT
    rw [Nat.one_mul] at x2
    go_enter Try.func10, Try.ntmps10
    go_wp2
    exact bodyPost_ret (v := .tuple #[.agg #[.int .u64 0, .int .u64 0, .int .u64 0, .int .u64 0], .int .i64 40]) (by simp [results, Try.results10, go_sem]) rfl
      ⟨by rw [wv_zero]; rfl, (((Below.refl w.heap.size w).alloc (Nat.le_refl _) _).alloc (by simp) _).alloc (by simp; omega) _⟩
  · obtain rfl : s = 0 := by omega
    rw [Nat.zero_mul] at x2
    rw [if_neg (by decide)] at hT
    by_cases hm0 : m = 0
    · subst hm0
      have hT0 : t = 0 := by rw [hT]; split <;> simp [Nat.zero_div]
      clear hT
      subst hT0
      go_enter Try.func10, Try.ntmps10
      go_wp2
      exact bodyPost_ret (v := .tuple #[.agg #[.int .u64 0, .int .u64 0, .int .u64 0, .int .u64 0], .int .i64 40]) (by simp [results, Try.results10, go_sem]) rfl
        ⟨by rw [wv_zero]; rfl, (((Below.refl w.heap.size w).alloc (Nat.le_refl _) _).alloc (by simp) _).alloc (by simp; omega) _⟩
    · have x4 : ((m : Int) == 0) = false := by rw [beq_eq_false_iff_ne]; omega
      have hmW : m < W256 := by rw [W256_eq]; omega
      have L := St.new3' w (wcs 0) (wcs m) (wcs 0) 25 25 25
      have q0 := weql t 0 ht W_pos
      rw [wv_zero] at q0
      have em : wcs m = #[.int .u64 (m : Int), .int .u64 0, .int .u64 0, .int .u64 0] := by have := wv_small (m := m) (by omega); simpa using this
      rw [em, wc_zero] at L
      by_cases h3 : e < 3
      · rw [if_pos h3] at hT
        have p := fun w => wright m (-(8 * ((e : Int) - 3))) w hmW
        rw [wv_small (by omega), show clampN (-(8 * ((e : Int) - 3))) = 8 * (3 - e) from by unfold clampN; omega, ← hT] at p
        have P := Lib.hid p
        clear p hT
        go_enter Try.func10, Try.ntmps10
        go_wp2_with fail
        refine (P.out _).mono ?_
        rintro e w1 ⟨rfl, hw1⟩
        replace L := L.call hw1
        clear hw1
        have T6 := L.at (b := w.heap.size + 1 + 1) (c := #[.int .u64 0, .int .u64 0, .int .u64 0, .int .u64 0]) (t := 25) (by simp)
        have t1 := T6.cell
        have t2 := T6.free
        clear T6
        go_upto_region 11 with fail
        replace L := L.put (m := 0) (n := t) (by omega) (by simp <;> omega)
        generalize (((w1.setCell ⟨w.heap.size + 1 + 1, 0, none⟩ (.int .u64 (wd t 0))).setCell ⟨w.heap.size + 1 + 1, 1, none⟩ (.int .u64 (wd t 1))).setCell ⟨w.heap.size + 1 + 1, 2, none⟩ (.int .u64 (wd t 2))).setCell ⟨w.heap.size + 1 + 1, 3, none⟩ (.int .u64 (wd t 3)) = w2 at *
        clear t1 t2
        have T6 := L.at (b := w.heap.size + 1 + 1) (c := wcs t) (t := 25) (by simp)
        have t1 := T6.cell
        have T2 := L.at (b := w.heap.size) (c := #[.int .u64 0, .int .u64 0, .int .u64 0, .int .u64 0]) (t := 25) (by simp)
        have t3 := T2.cell
        have t4 := T2.free
        clear T6 T2
        replace L := L.perm (l' := [(w.heap.size, #[.int .u64 0, .int .u64 0, .int .u64 0, .int .u64 0], 25)]) (by simp)
        by_cases htz : t = 0
        · rw [show (t == 0) = true from by simpa using htz] at q0
          have HE := Lib.hid (show tErr t = 40 from if_pos htz)
          clear htz
          go_wp2
          have L1 := L.put (m := 0) (n := t) (by omega) (by simp)
          have c4 := (L1.at (b := w.heap.size) (c := wcs t) (t := 25) (by simp)).cell
          exact bodyPost_ret (v := .tuple #[wv t, .int .i64 40]) (by simp [results, Try.results10, go_sem, c4]) rfl ⟨by rw [HE.out], L1.below⟩
        · rw [show (t == 0) = false from by simpa using htz] at q0
          have HE := Lib.hid (show tErr t = 0 from if_neg htz)
          clear htz
          go_wp2
          have L1 := L.put (m := 0) (n := t) (by omega) (by simp)
          have c4 := (L1.at (b := w.heap.size) (c := wcs t) (t := 25) (by simp)).cell
          exact bodyPost_ret (v := .tuple #[wv t, .int .i64 0]) (by simp [results, Try.results10, go_sem, c4]) rfl ⟨by rw [HE.out], L1.below⟩
      · rw [if_neg h3] at hT
        have pb := Lib.hid (fun w => wbits m w hmW)
        have pb2 := pb.out
        rw [wv_small (by omega)] at pb2
        have PB := Lib.hid pb2
        clear pb pb2
        have hbl := blen_lt m 23 hm
        by_cases ho : 256 < blen m + 8 * (e - 3)
        · rw [if_pos ho] at hT
          subst hT
          go_enter Try.func10, Try.ntmps10
          go_wp2_with fail
          refine (PB.out _).mono ?_
          rintro e' w1 ⟨rfl, hw1⟩
          replace L := L.call hw1
          clear hw1
          have T2 := L.at (b := w.heap.size) (c := #[.int .u64 0, .int .u64 0, .int .u64 0, .int .u64 0]) (t := 25) (by simp)
          have t3 := T2.cell
          have t4 := T2.free
          have L1 := L.below
          go_wp2
          have c4 := (Blk.set4 (y0 := .int .u64 0) (y1 := .int .u64 0) (y2 := .int .u64 0) (y3 := .int .u64 0) T2).cell
          exact bodyPost_ret (v := .tuple #[.agg #[.int .u64 0, .int .u64 0, .int .u64 0, .int .u64 0], .int .i64 40]) (by simp [results, Try.results10, go_sem, c4]) rfl
            ⟨by rw [wv_zero]; rfl, (((L1.setCell (by dsimp only; omega) _).setCell (by dsimp only; omega) _).setCell (by dsimp only; omega) _).setCell (by dsimp only; omega) _⟩
        · rw [if_neg ho] at hT
          have hlt := sub_le_blen ho
          have p := fun w => wleft m (8 * ((e : Int) - 3)) w
          rw [wv_small (by omega), show clampN (8 * ((e : Int) - 3)) = 8 * (e - 3) from by unfold clampN; omega, Nat.mod_eq_of_lt hlt, ← hT] at p
          have P := Lib.hid p
          clear p hT hlt
          go_enter Try.func10, Try.ntmps10
          go_wp2_with fail
          refine (PB.out _).mono ?_
          rintro e' w1 ⟨rfl, hw1⟩
          replace L := L.call hw1
          clear hw1
          have T4 := L.at (b := w.heap.size + 1) (c := #[.int .u64 (m : Int), .int .u64 0, .int .u64 0, .int .u64 0]) (t := 25) (by simp)
          have t5 := T4.cell
          go_wp2_with fail
          refine (P.out _).mono ?_
          clear T4 t5
          rintro e w1 ⟨rfl, hw1⟩
          replace L := L.call hw1
          clear hw1
          have T6 := L.at (b := w.heap.size + 1 + 1) (c := #[.int .u64 0, .int .u64 0, .int .u64 0, .int .u64 0]) (t := 25) (by simp)
          have t1 := T6.cell
          have t2 := T6.free
          clear T6
          go_upto_region 11 with fail
          replace L := L.put (m := 0) (n := t) (by omega) (by simp <;> omega)
          generalize (((w1.setCell ⟨w.heap.size + 1 + 1, 0, none⟩ (.int .u64 (wd t 0))).setCell ⟨w.heap.size + 1 + 1, 1, none⟩ (.int .u64 (wd t 1))).setCell ⟨w.heap.size + 1 + 1, 2, none⟩ (.int .u64 (wd t 2))).setCell ⟨w.heap.size + 1 + 1, 3, none⟩ (.int .u64 (wd t 3)) = w2 at *
          clear t1 t2
          have T6 := L.at (b := w.heap.size + 1 + 1) (c := wcs t) (t := 25) (by simp)
          have t1 := T6.cell
          have T2 := L.at (b := w.heap.size) (c := #[.int .u64 0, .int .u64 0, .int .u64 0, .int .u64 0]) (t := 25) (by simp)
          have t3 := T2.cell
          have t4 := T2.free
          clear T6 T2
          replace L := L.perm (l' := [(w.heap.size, #[.int .u64 0, .int .u64 0, .int .u64 0, .int .u64 0], 25)]) (by simp)
          by_cases htz : t = 0
          · rw [show (t == 0) = true from by simpa using htz] at q0
            have HE := Lib.hid (show tErr t = 40 from if_pos htz)
            clear htz
            go_wp2
            have L1 := L.put (m := 0) (n := t) (by omega) (by simp)
            have c4 := (L1.at (b := w.heap.size) (c := wcs t) (t := 25) (by simp)).cell
            exact bodyPost_ret (v := .tuple #[wv t, .int .i64 40]) (by simp [results, Try.results10, go_sem, c4]) rfl ⟨by rw [HE.out], L1.below⟩
          · rw [show (t == 0) = false from by simpa using htz] at q0
            have HE := Lib.hid (show tErr t = 0 from if_neg htz)
            clear htz
            go_wp2
            have L1 := L.put (m := 0) (n := t) (by omega) (by simp)
            have c4 := (L1.at (b := w.heap.size) (c := wcs t) (t := 25) (by simp)).cell
            exact bodyPost_ret (v := .tuple #[wv t, .int .i64 0]) (by simp [results, Try.results10, go_sem, c4]) rfl ⟨by rw [HE.out], L1.below⟩
end Go.Proofs.Ytacgcaebolmpfaa
