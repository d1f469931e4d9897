/- The walk of the reference's product. -/
import Derived.Test.YtacgcaebolmpfaaRefDiv
namespace Go.Proofs.Ytacgcaebolmpfaa
open Go.RowKit
set_option linter.unusedSimpArgs false

theorem mod_bit (a b i : Nat) : a * (b % 2 ^ (i + 1)) = a * (b % 2 ^ i) + (b / 2 ^ i % 2) * (a * 2 ^ i) := by
  rw [Nat.mod_pow_succ, Nat.mul_add]; congr 1; rw [Nat.mul_comm (2 ^ i), ← Nat.mul_assoc, Nat.mul_comm a, Nat.mul_assoc]
theorem mul_no {a b i : Nat} (h : bt b i = 0) : a * (b % 2 ^ (i + 1)) = a * (b % 2 ^ i) := by
  unfold bt at h; rw [mod_bit, show b / 2 ^ i % 2 = 0 from by omega]; omega
theorem mul_yes {a b i : Nat} (h : ¬ bt b i = 0) : a * (b % 2 ^ (i + 1)) = a * (b % 2 ^ i) + a * 2 ^ i := by
  unfold bt at h; rw [mod_bit, show b / 2 ^ i % 2 = 1 from by omega, Nat.one_mul]
theorem over_bits (a i : Nat) (hi : i < 256) : (256 < blen a + i) = (W256 ≤ a * 2 ^ i) := by
  apply propext
  have h := blen_le a (256 - i)
  have e : a < 2 ^ (256 - i) ↔ a * 2 ^ i < W256 := by
    rw [W256_eq, show (256 : Nat) = (256 - i) + i from by omega, Nat.pow_add]
    rw [show 256 - i + i - i = 256 - i from by omega]
    exact (Nat.mul_lt_mul_right (Nat.two_pow_pos i)).symm
  omega
theorem over_next (N A : Nat) : (decide (W256 ≤ N) || decide (W256 ≤ A) || decide (W256 ≤ N % W256 + A % W256)) = decide (W256 ≤ N + A) := by
  rw [Bool.eq_iff_iff]
  simp only [Bool.or_eq_true, decide_eq_true_eq]
  constructor
  · rintro ((h | h) | h)
    · omega
    · omega
    · have := Nat.mod_le N W256; have := Nat.mod_le A W256; omega
  · intro h
    by_cases h1 : W256 ≤ N
    · exact .inl (.inl h1)
    · by_cases h2 : W256 ≤ A
      · exact .inl (.inr h2)
      · right; rw [Nat.mod_eq_of_lt (by omega), Nat.mod_eq_of_lt (by omega)]; exact h

set_option maxRecDepth 100000 in
set_option maxHeartbeats 1600000 in
theorem rmul (a b : Nat) (w : World) (ha : a < W256) (hb : b < W256) :
    Calls Try.prog 38 #[wv a, wv b] w fun e w' => e = .returned (.tuple #[wv (a * b % W256), .bool (decide (W256 ≤ a * b))]) ∧ Below w.heap.size w w' := by
  have L := St.new4 w (wcs a) (wcs b) (wcs 0) (wcs 0) 25 25 25 25
  rw [wc_zero] at L
  go_enter Try.func38, Try.ntmps38
  go_upto_region 3 with fail
  generalize (((w.alloc (.cells #[.int .u64 (wd a 0), .int .u64 (wd a 1), .int .u64 (wd a 2), .int .u64 (wd a 3)] 25)).alloc (.cells #[.int .u64 (wd b 0), .int .u64 (wd b 1), .int .u64 (wd b 2), .int .u64 (wd b 3)] 25)).alloc (.cells #[.int .u64 0, .int .u64 0, .int .u64 0, .int .u64 0] 25)).alloc (.cells #[.int .u64 0, .int .u64 0, .int .u64 0, .int .u64 0] 25) = v at *
  rw [← wc_zero] at L
  go_wp2
  go_loopg [7, 11] 256 (fun m ov i wx => ∃ (k N : Nat), k ≤ 256 ∧ i = .int .i64 k ∧ m = 256 - k ∧ Hid (N = a * (b % 2 ^ k)) ∧ ov = .bool (decide (W256 ≤ N)) ∧ St w.heap.size w wx [(w.heap.size + 1 + 1 + 1, wcs (N % W256), 25), (w.heap.size + 1 + 1, wcs 0, 25), (w.heap.size + 1, wcs b, 25), (w.heap.size, wcs a, 25)])
  case atStart => exact ⟨0, 0, by omega, rfl, rfl, by show (0 : Nat) = _; rw [Nat.pow_zero, Nat.mod_one, Nat.mul_zero], by rw [decide_eq_false (by have := W_pos; omega)], by rw [Nat.zero_mod]; exact L⟩
  case round =>
    clear L
    obtain ⟨k, N, hk, rfl, rfl, H, rfl, L⟩ := hrel
    by_cases hlt : k < 256
    · have BB := L.at (b := w.heap.size + 1) (c := wcs b) (t := 25) (by simp)
      have b1 := BB.cell
      go_wp2_with fail
      refine (rbit b k _ hlt).mono ?_
      rintro e w1 ⟨rfl, hw1⟩
      replace L := L.call hw1
      clear BB b1 hw1
      by_cases hbit : bt b k = 0
      · rw [hbit]
        have HN := Lib.hid (mul_no (a := a) hbit)
        clear hbit
        go_wp2
        go_roundg (256 - (k + 1))
        case measure => omega
        case rel => exact ⟨k + 1, N, by omega, by go_num, rfl, by rw [HN.out]; exact H.out, rfl, L⟩
      · have hb1 : bt b k = 1 := by have := bt_range b k; omega
        have HN := Lib.hid (mul_yes (a := a) hbit)
        rw [hb1]
        clear hbit hb1
        have HO := Lib.hid (over_bits a k hlt)
        have HO2 := Lib.hid (over_next N (a * 2 ^ k))
        go_upto_region 7 with fail
        go_cut [7] (fun s7 wx => s7 = .bool (decide (W256 ≤ N) || decide (W256 ≤ a * 2 ^ k)) ∧ St w.heap.size w wx [(w.heap.size + 1 + 1 + 1, wcs (N % W256), 25), (w.heap.size + 1 + 1, wcs 0, 25), (w.heap.size + 1, wcs b, 25), (w.heap.size, wcs a, 25)])
        case first =>
          by_cases hov : W256 ≤ N
          · rw [decide_eq_true hov]
            go_wp2
            go_meet
            exact ⟨by rw [decide_eq_true hov]; rfl, L⟩
          · rw [decide_eq_false hov]
            have AB := L.at (b := w.heap.size) (c := wcs a) (t := 25) (by simp)
            have a1 := AB.cell
            go_wp2_with fail
            refine (rbits a _ ha).mono ?_
            rintro e w2 ⟨rfl, hw2⟩
            replace L := L.call hw2
            clear AB a1 hw2
            have hl := blen_lt a 256 (by rw [W256_eq] at ha; exact ha)
            go_wp2
            go_meet
            exact ⟨by rw [decide_eq_false hov, Bool.false_or]; congr 1; rw [Bool.eq_iff_iff, decide_eq_true_eq, decide_eq_true_eq, ← HO.out]; omega, L⟩
        case rest =>
          clear L HO
          obtain ⟨rfl, L⟩ := hcut
          go_upto_region 8 with fail
          generalize (decide (W256 ≤ N) || decide (W256 ≤ a * 2 ^ k)) = ov at *
          have OB := L.at (b := w.heap.size + 1 + 1 + 1) (c := wcs (N % W256)) (t := 25) (by simp)
          have AB := L.at (b := w.heap.size) (c := wcs a) (t := 25) (by simp)
          have o1 := OB.cell
          have o2 := OB.lt
          have a1 := AB.cell
          have a2 := AB.lt
          have hcl : clampN (k : Int) = k := clampN_nat k (by omega)
          have hm1 := mod_W N
          have hm2 := mod_W (a * 2 ^ k)
          have HC := Lib.hid hcl
          clear hcl
          go_cut [9, 10] (fun s9 s10 wx => ∃ g : Nat, s9 = .pointer (some ⟨g, 0, none⟩) ∧ s10 = .bool (decide (W256 ≤ N % W256 + a * 2 ^ k % W256)) ∧ wc.heap.size ≤ g ∧ Blk wx g (wcs ((N + a * 2 ^ k) % W256)) 25 ∧ Below wc.heap.size wc wx)
          case first =>
            go_region_held3 (fun w' => Below wc.heap.size wc w' ∧ (∀ b o, b < wc.heap.size → w'.cell? ⟨b, o, none⟩ = wc.cell? ⟨b, o, none⟩)) (first | exact SK.start wc | exact SK.keep (by assumption) hw' | exact SK.alloc (by assumption) _ | exact SK.set (SK.set (SK.set (SK.set (by assumption) (by dsimp only; omega) _) (by dsimp only; omega) _) (by dsimp only; omega) _) (by dsimp only; omega) _)
              (first | (go_at_call 27; refine (rleft a k _).mono ?_; rw [HC.out]; rintro e w' ⟨rfl, hw'⟩; have hS := SK.keep (by assumption) hw'; have hz1 := hS.1.size; obtain ⟨hcc, hff⟩ := bcell hw'; (try (have hz3 : wc.heap.size < w'.heap.size := (by (have hz2 := hw'.size); (simp at hz2); omega)))) | (go_at_call 34; refine (radd _ _ _ hm1 hm2).mono ?_; rintro e w' ⟨rfl, hw'⟩; have hS := SK.keep (by assumption) hw'; have hz1 := hS.1.size; obtain ⟨hcc, hff⟩ := bcell hw') | fail)
            all_goals (rename_i hH; go_wp2_with fail; go_meet; refine ⟨_, rfl, rfl, ?_, ?_, hH.1⟩)
            all_goals try omega
            · exact Blk.new _ _ _
            · exact Blk.put0 ((Blk.new _ _ _).beyond hw')
            · exact Blk.put0 (((Blk.new wc _ _).drew.beyond (by assumption)).beyond hw')
          case rest =>
            clear OB AB o1 o2 a1 a2 hm1 hm2 HC
            obtain ⟨g, rfl, rfl, hg, G, HB⟩ := hcut
            replace L := L.call HB
            generalize decide (W256 ≤ N % W256 + a * 2 ^ k % W256) = o2 at *
            have OB := L.at (b := w.heap.size + 1 + 1 + 1) (c := wcs (N % W256)) (t := 25) (by simp)
            have o3 := OB.cell
            have o4 := OB.free
            have g1 := G.cell
            clear HB hg
            generalize hS : (N + a * 2 ^ k) % W256 = S at *
            have HS := Lib.hid hS
            clear hS
            have HO3 := HO2.out
            clear HO2
            cases ov
            all_goals
              go_wp2
              replace L := L.put (n := S) (by omega) (by simp <;> omega)
              clear o3 o4 g1 OB G
              go_roundg (256 - (k + 1))
              case measure => omega
              case rel => exact ⟨k + 1, N + a * 2 ^ k, by omega, by go_num, rfl, by show _ = _; rw [HN.out, ← H.out], by first | rfl | exact congrArg Value.bool HO3, by rw [HS.out]; exact L⟩
    · obtain rfl : k = 256 := by omega
      have hN := H.out
      rw [Nat.mod_eq_of_lt (by rw [W256_eq] at hb; exact hb)] at hN
      subst hN
      clear H
      have Q := L.at (b := w.heap.size + 1 + 1 + 1) (c := wcs (a * b % W256)) (t := 25) (by simp)
      have T4 := L.at (b := w.heap.size + 1 + 1) (c := wcs 0) (t := 25) (by simp)
      have q1 := Q.cell
      have t1 := T4.cell
      have t2 := T4.free
      rw [wc_zero] at t1
      generalize hov : decide (W256 ≤ a * b) = ov at *
      generalize hq : a * b % W256 = q at *
      have HO := Lib.hid hov
      have HQ := Lib.hid hq
      clear hov hq
      go_wp2
      have L1 := (L.perm (l' := [(w.heap.size + 1 + 1, wcs 0, 25)]) (by simp)).put (n := q) (by omega) (by simp)
      have c4 := (L1.at (b := w.heap.size + 1 + 1) (c := wcs q) (t := 25) (by simp)).cell
      exact bodyPost_ret (v := .tuple #[wv q, .bool ov]) (by simp [results, Try.results38, go_sem, c4]) rfl ⟨by rw [HO.out, HQ.out], L1.below⟩
end Go.Proofs.Ytacgcaebolmpfaa
