/- The law TapeFuse. -/
import Derived.Test.YtfeljjbelnlojaaTapeOwn
import Derived.Test.YtfeljjbelnlojaaTapeOpen
namespace Go.Proofs.Ytfeljjbelnlojaa
open Go Go.RowKit
set_option linter.unusedSimpArgs false

theorem burn_pos {fu : Int} (h : 0 < fu) : burn fu = fu - 1 := if_pos h
theorem burnE_pos {fu : Int} (h : fu ≠ 0) : burnE fu = 0 := if_neg h
theorem app_fits {n m : Nat} {ro fu : Int} (h : fu ≠ 0) (hf : n + m ≤ ro) : appE n m ro fu = 0 := by unfold appE; rw [if_neg h, if_neg (by omega)]
theorem appB_fits {xs ys : List Int} {ro fu : Int} (h : fu ≠ 0) (hf : (xs.length : Int) + ys.length ≤ ro) : appB xs ys ro fu = xs ++ ys := by unfold appB; rw [if_neg h, if_neg (by omega)]
theorem one_in (w : World) : Lib.BytesIn (w.alloc (.cells #[.int .u8 1] 5)) (some ⟨w.heap.size, 0, none⟩) [(1 : Int)].length [1] := fun _ => ⟨_, 0, rfl, fun i hi => by
  obtain rfl : i = 0 := by simpa using hi
  exact (Blk.new w #[.int .u8 1] 5).cell 0⟩

set_option maxRecDepth 100000 in
set_option maxHeartbeats 3200000 in
theorem fuse_walk (n : Int) (N : Nat) (q : Option Addr) (cap len : Nat) (zs : List Int) (w : World)
    (e1 : wrap64 ((IntKind.u64.wrap n).tmod 20) = (N : Int)) (hN : N < 20) (hz : min (len : Int) 100 = (zs.length : Int)) (hlen : len ≤ 9223372036854775807) (hcap : zs.length ≤ cap) (hy : Lib.BytesIn w q zs.length zs) :
    Calls Try.prog 5 #[.int .i64 n, .slice q len cap] w fun e w' => e = .returned (.bool true) ∧ Below w.heap.size w w' := by
  have hz100 : zs.length ≤ 100 := by omega
  have HY := Lib.hid hy
  have P := Lib.hid (own_new w w 65536 (Below.refl _ _) (by decide) (by decide))
  clear hy
  go_enter Try.func5, Try.ntmps5
  go_upto_region 2 with fail
  rw [e1]
  clear e1
  go_wp2_with fail
  refine P.out.mono ?_
  rintro e w1 ⟨p, rfl, ho⟩
  have PF := Lib.hid (own_fuse (N : Int) ho)
  clear ho P
  have fE := Lib.hid (show fuseE (N : Int) = 0 from if_neg (by omega))
  have fN := Lib.hid (show fuseN (N : Int) (-1) = N from if_neg (by omega))
  go_wp2_with fail
  refine PF.out.mono ?_
  rintro e w2 ⟨rfl, ho⟩
  rw [fE.out]
  rw [fN.out] at ho
  have HO := Lib.hid ho
  clear ho PF
  go_wp2
  go_loopg [29] N (fun g i wx => ∃ (k : Nat) (xs : List Int), k ≤ N ∧ i = .int .i64 k ∧ g = N - k ∧ Hid (xs.length = k * zs.length) ∧ Hid (Own w wx p xs 0 65536 ((N : Int) - k)))
  case atStart => exact ⟨0, [], by omega, rfl, rfl, by show _ = _; simp, by show Own _ _ _ _ _ _ _; simpa using HO.out⟩
  case round =>
    clear HO
    obtain ⟨k, xs, hk, rfl, rfl, HL, HO⟩ := hrel
    have hmul : k * zs.length ≤ 20 * 100 := Nat.mul_le_mul (by omega) hz100
    have hxl : xs.length ≤ 2000 := by have := HL.out; omega
    by_cases hlt : k < N
    · have PA := Lib.hid (own_append q cap HO.out HY.out (by omega) (by omega) (by decide) (by decide) (by omega) (by omega))
      have aE := Lib.hid (app_fits (n := xs.length) (m := zs.length) (ro := 65536) (fu := (N : Int) - k) (by omega) (by omega))
      have aB := Lib.hid (appB_fits (xs := xs) (ys := zs) (ro := 65536) (fu := (N : Int) - k) (by omega) (by omega))
      go_wp2_with fail
      refine PA.out.mono ?_
      rintro e w3 ⟨rfl, ho⟩
      rw [aE.out]
      rw [aB.out, burn_pos (by omega)] at ho
      have HO2 := Lib.hid ho
      clear ho PA
      go_wp2
      go_roundg (N - (k + 1))
      case measure => omega
      case rel => exact ⟨k + 1, xs ++ zs, by omega, by go_num, rfl, by show _ = _; rw [List.length_append, HL.out, Nat.succ_mul], by have h := HO2.out; rwa [show (N : Int) - k - 1 = (N : Int) - ((k + 1 : Nat) : Int) from by omega] at h⟩
    · obtain rfl : k = N := by omega
      have ho := HO.out
      rw [show (k : Int) - k = 0 from by omega] at ho
      clear HO
      have PA := Lib.hid (own_append q cap ho HY.out (by omega) (by omega) (by decide) (by decide) (by omega) (by omega))
      have aE := Lib.hid (show appE xs.length zs.length 65536 0 = 150 from rfl)
      have aB := Lib.hid (show appB xs zs 65536 0 = xs from rfl)
      clear ho
      go_wp2_with fail
      refine PA.out.mono ?_
      rintro e w3 ⟨rfl, ho⟩
      rw [aE.out]
      rw [aB.out, show burn 0 = 0 from rfl] at ho
      have PS := Lib.hid (own_sync ho (by decide) (by decide))
      clear ho PA
      go_wp2_with fail
      refine PS.out.mono ?_
      rintro e w4 ⟨rfl, ho⟩
      rw [show burnE 0 = 150 from rfl]
      rw [show syncN xs 0 0 = 0 from rfl, show burn 0 = 0 from rfl] at ho
      have PC := Lib.hid (own_cut 0 ho (by omega) (by decide) (by decide))
      clear ho PS
      go_wp2_with fail
      refine PC.out.mono ?_
      rintro e w5 ⟨rfl, ho⟩
      rw [show cutE 0 (xs.length : Int) 0 = 150 from (if_neg (by omega)).trans rfl]
      rw [show cutB xs 0 0 = xs from if_pos (.inr (.inr rfl)), show cutS xs 0 0 0 = 0 from if_pos (.inr (.inr rfl)), show cutF (xs.length : Int) 0 0 = 0 from (if_neg (by omega)).trans rfl] at ho
      have PB := Lib.hid (own_bytes ho (by omega))
      clear ho PC
      go_wp2_with fail
      refine PB.out.mono ?_
      rintro e w6 ⟨q6, c6, rfl, _, ho, hb6⟩
      have PX := Lib.hid (own_crash 0 ho (by omega) (by decide) (by omega))
      have hL : (xs.length : Int) = (k : Int) * zs.length := by have := HL.out; rw [this, Int.natCast_mul]
      have q1 : ((xs.length : Int) != (k : Int) * zs.length) = false := by rw [bne_eq_false_iff_eq]; exact hL
      have b1 : (k : Int) * zs.length ≤ 2000 := by rw [← hL]; omega
      have b2 : 0 ≤ (k : Int) * zs.length := by rw [← hL]; omega
      clear ho PB hb6 hL
      go_wp2_with fail
      refine PX.out.mono ?_
      rintro e w7 ⟨rfl, ho⟩
      rw [show crashN xs.length 0 0 = 0 from by unfold crashN; omega, List.take_zero] at ho
      have PB := Lib.hid (own_bytes ho (by simp))
      clear ho PX q1 b1 b2
      go_wp2_with fail
      refine PB.out.mono ?_
      rintro e w8 ⟨q8, c8, rfl, _, ho, hb8⟩
      obtain ⟨o, h1, h2, h3, h4⟩ := ho
      have hlt8 := h1.lt
      have PA := Lib.hid (own_append_at (W := w) (w := w8.alloc (.cells #[.int .u8 1] 5)) (ys := [1]) (some ⟨w8.heap.size, 0, none⟩) 1 (h1.keep ((Keep.refl (fun _ => False) w8).alloc _) (fun _ _ h => h)) h2 h3 (h4.alloc h4.size _)
        (one_in w8) (fun _ a ha hf => by cases ha; exact absurd (hlt8 _ hf) (Nat.lt_irrefl _)) (by simp) (by simp) (by decide) (by decide) (by decide) (by decide))
      clear h1 h2 h3 h4 hb8 hlt8 PB
      go_wp2_with fail
      refine PA.out.mono ?_
      rintro e w9 ⟨rfl, ho⟩
      rw [show appE ([] : List Int).length [(1 : Int)].length 65536 (-1) = 0 from rfl]
      rw [show appB [] [(1 : Int)] 65536 (-1) = [1] from rfl] at ho
      have PB := Lib.hid (own_bytes ho (by simp))
      clear ho PA
      go_wp2_with fail
      refine PB.out.mono ?_
      rintro e w10 ⟨q10, c10, rfl, _, ho, hb10⟩
      have HF := Lib.hid ho.below
      clear ho hb10 PB
      go_wp2
      go_ret
      exact ⟨rfl, HF.out⟩
theorem fuse_any (n : Int) (q : Option Addr) (cap : Nat) (xs : List Int) (w : World) (hl : xs.length ≤ 9223372036854775807)
    (h : Lib.BytesIn w q xs.length xs ∧ xs.length ≤ cap ∧ cap ≤ 9223372036854775807 ∧ (∀ x ∈ xs, 0 ≤ x ∧ x < 256) ∧ (q = none → cap = 0)) :
    Calls Try.prog 5 #[.int .i64 n, .slice q xs.length cap] w fun e w' => e = .returned (.bool true) ∧ Below w.heap.size w w' := by
  obtain ⟨hb, hc1, hc2, _, _⟩ := h
  have hl2 : (xs.take (min xs.length 100)).length = min xs.length 100 := by simp
  refine fuse_walk n (n % 18446744073709551616 % 20).toNat q cap xs.length (xs.take (min xs.length 100)) w ?_ (by omega) (by rw [hl2]; omega) hl (by rw [hl2]; omega) (BytesIn.take hb (by omega) rfl)
  rw [IntKind.wrap_u64, Int.tmod_eq_emod_of_nonneg (by omega)]
  unfold wrap64; omega
end Go.Proofs.Ytfeljjbelnlojaa
