/- The library's: slices.Grow of nil, slices.Concat, at [][]byte. -/
import Derived.Test.YtppcccocnmhbgaaRows
import Derived.Test.YtppcccocnmhbgaaCat
import Derived.Test.YtppcccocnmhbgaaRegion
import Derived.Deep.LoopGhost
import Derived.Lib.AppendZeros
namespace Go.Proofs.Ytppcccocnmhbgaa
open Go Go.RowKit
set_option linter.unusedSimpArgs false
set_option linter.unusedVariables false
set_option maxRecDepth 100000

set_option maxHeartbeats 1600000 in
theorem grow_R (i0 : TypeInfo) (hi : Try.prog.info? 26 = some i0) (hz0 : i0.zero = some (.slice none 0 0)) (hz1 : i0.size = 1) (hz2 : i0.bytes = 24) (n : Nat) (hn : n * 24 ≤ 140737488355328) (w : World) :
    Calls Try.prog 44 #[.slice none 0 0, .int .i64 (n : Int)] w fun e w' => ∃ v o, e = .returned v ∧ RowV w' 26 1 v 0 [] o ∧ (∀ g, o = some g → w.heap.size ≤ g) ∧ Below w.heap.size w w' := by
  by_cases h0 : 0 < n
  · obtain ⟨g, cap, w1, run1, R, hcap, hcm, hg, hb⟩ := run_append_room_nil (P := Try.prog) w 24 3 24 26 i0 (.slice none 0 0) Try.underlying24 Try.underlying3 hi hz0 hz1 rfl n h0 (by rw [hz2]; exact hn) (by omega)
    have H := Lib.hid (And.intro R (And.intro hg hb))
    unfold maxLen at hcm
    have h1 : ¬ ((n : Int) < 0) := by omega
    have h2 : (0 : Int) < (n : Int) := by omega
    have h3 : (n : Int) ≤ 140737488355328 := by omega
    clear R hg hb h0 hn
    go_enter Try.func44, Try.ntmps44
    go_wp2_with (at_builtin; refine Lib.wpList_append_run _ rfl _ _ _ _ rfl _ _ rfl rfl _ _ run1 ?_)
    go_ret
    exact ⟨_, rfl, some g, H.out.1, fun g' e => (by cases e; exact H.out.2.1), H.out.2.2⟩
  · obtain rfl : n = 0 := by omega
    go_enter Try.func44, Try.ntmps44
    go_wp2
    go_ret
    exact ⟨_, none, rfl, RowV.nil _ _ _, fun g' e => (by cases e), Below.refl _ _⟩
theorem info_R : (Try.prog.info? 26).map (fun i => (i.zero, i.size, i.bytes)) = some (some (.slice none 0 0), 1, 24) := by kernel_rfl
set_option maxHeartbeats 3200000 in
theorem concat_R (q : Option Addr) (n c : Nat) (A : Nat → Option Addr) (L C : Nat → Nat) (cs : Nat → List Value) (w : World) (h : CatIn w q n A L C cs) (hn : n ≤ 1000000) (hl : lenL L n * 24 ≤ 140737488355328) :
    Calls Try.prog 18 #[.slice q n c] w fun e w' => ∃ v o, e = .returned v ∧ RowV w' 26 1 v (lenL L n) (catL cs n) o ∧ (∀ g, o = some g → w.heap.size ≤ g) ∧ Below w.heap.size w w' := by
  obtain ⟨i0, hi, hz0, hz1, hz2⟩ := info_parts info_R
  have HI := Lib.hid (And.intro hi (And.intro hz0 (And.intro hz1 hz2)))
  have PG := Lib.hid (grow_R i0 hi hz0 hz1 hz2 (lenL L n) hl w)
  have HC := Lib.hid h
  have HLL := Lib.hid hl
  have hl63 : lenL L n ≤ 140737488355328 := by omega
  clear h hi hz0 hz1 hz2 hl
  go_enter Try.func18, Try.ntmps18
  go_wp2
  go_loopg [3, 11] n (fun gh s i wx => ∃ k t : Nat, k ≤ n ∧ t ≤ 140737488355328 ∧ s = .int .i64 (t : Int) ∧ i = .int .i64 (k : Int) ∧ gh = n - k ∧ Hid (t = lenL L k) ∧ wx = w)
  case atStart => exact ⟨0, 0, Nat.zero_le _, Nat.zero_le _, rfl, rfl, rfl, rfl, rfl⟩
  case round =>
    obtain ⟨k, t, hk, ht, rfl, rfl, hg, HT, hwx⟩ := hrel
    obtain rfl : w = wr := hwx.symm
    have HGK := Lib.hid hg
    clear hg
    by_cases hlt : k < n
    · obtain ⟨b, o, rfl, hc, hlen, _, _⟩ := HC.out k hlt
      have hsum : t + L k ≤ 140737488355328 := by
        have h1 : lenL L (k + 1) ≤ lenL L n := lenL_mono L hlt
        have h2 : lenL L (k + 1) = lenL L k + L k := rfl
        have h3 := HT.out
        omega
      have HS := Lib.hid hsum
      have hLk : L k ≤ 140737488355328 := by omega
      have hnn : ¬ ((t : Int) + (L k : Int) < 0) := by omega
      have hww : IntKind.i64.wrap ((t : Int) + (L k : Int)) = (t : Int) + (L k : Int) := by rw [IntKind.wrap_i64]; omega
      clear hsum hlen
      go_wp2
      go_roundg (n - (k + 1))
      case measure => rw [HGK.out]; omega
      case rel => exact ⟨k + 1, t + L k, hlt, HS.out, congrArg (Value.int .i64) (by omega), rfl, rfl, by show t + L k = lenL L k + L k; rw [HT.out], rfl⟩
    · obtain rfl : k = n := by omega
      have ht2 := HT.out
      subst ht2
      go_wp2_with fail
      refine PG.out.mono ?_
      rintro e w1 ⟨v, o, rfl, R, ho, hb⟩
      have HR := Lib.hid (And.intro R (And.intro ho hb))
      clear R ho hb
      go_wp2
      generalize hgw : w.heap.size = G at *
      go_loopg [6, 27] k (fun gh s i wx => ∃ (j : Nat) (v : Value) (o : Option Nat), j ≤ k ∧ s = v ∧ i = .int .i64 (j : Int) ∧ gh = k - j ∧ Hid (RowV wx 26 1 v (lenL L j) (catL cs j) o ∧ (∀ g, o = some g → G ≤ g) ∧ Below G w wx))
      case atStart => exact ⟨0, v, o, Nat.zero_le _, rfl, rfl, rfl, HR.out⟩
      case round =>
        obtain ⟨j, v, o, hj, rfl, rfl, hg, HJ⟩ := hrel
        have HGJ := Lib.hid hg
        clear hg
        by_cases hlt : j < k
        · have hlen : lenL L (j + 1) ≤ lenL L k := lenL_mono L hlt
          obtain ⟨b, o2, rfl, hc, hln, h1, hp⟩ := (HC.out.below (by rw [hgw]; exact HJ.out.2.2)) j hlt
          obtain ⟨v2, w2, o3, run2, R2, ho2, hk2⟩ := rowV_appendN (P := Try.prog) 24 24 i0 (.slice none 0 0) Try.underlying24 HI.out.1 HI.out.2.1 HI.out.2.2.1 HI.out.2.2.2 rfl HJ.out.1 (c := C j) hln h1 hp (by
              have h2 : lenL L (j + 1) = lenL L j + L j := rfl
              unfold maxLen; omega) (by
              have h2 : lenL L (j + 1) = lenL L j + L j := rfl
              rw [← h2]; exact Nat.le_trans (Nat.mul_le_mul_right _ hlen) HLL.out)
          have HN := Lib.hid (And.intro R2 (own_step hgw HJ.out.2.2 HJ.out.2.1 ho2 hk2))
          obtain ⟨q1, c1, rfl, _⟩ := HJ.out.1.form
          clear hlen hln h1 hp R2 ho2 hk2
          go_wp2_with (at_builtin; refine wpl_append rfl _ _ 24 rfl rfl rfl run2 ?_)
          go_roundg (k - (j + 1))
          case measure => rw [HGJ.out]; omega
          case rel => exact ⟨j + 1, v2, o3, hlt, rfl, rfl, rfl, HN.out.1, HN.out.2.1, HN.out.2.2⟩
        · obtain rfl : j = k := by omega
          subst hgw
          go_wp2
          go_ret
          exact ⟨_, o, rfl, HJ.out.1, HJ.out.2.1, HJ.out.2.2⟩
end Go.Proofs.Ytppcccocnmhbgaa
