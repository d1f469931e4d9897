import Derived.Test.YtppcccocnmhbgaaFl22
import Derived.Test.YtppcccocnmhbgaaFl7
import Derived.Deep.LoopGhost
import Derived.Deep.OwnRows
import Derived.Test.YtppcccocnmhbgaaFl20
import Derived.Test.YtppcccocnmhbgaaFl15
import Derived.Test.YtppcccocnmhbgaaFl19
section
/- The walk of the writer's Rice: a loop by goto. -/
namespace Go.Proofs.Ytppcccocnmhbgaa
open Go Go.RowKit
set_option maxRecDepth 100000
set_option linter.unusedSimpArgs false

set_option maxHeartbeats 3200000 in
theorem crice (p : Nat) (l : List Bool) (n : Nat) (c : Int) (o : Option Nat) (w : World) (h : WAt w p l o) (hl : l.length ≤ 1099511000000) (hn : n < 18446744073709551616) :
    Calls Try.prog 35 #[.pointer (some ⟨p, 0, none⟩), .int .u64 (n : Int), .int .i64 c] w fun e w' => e = .returned (.int .i64 (riceE n c)) ∧ Grew w w' p (riceL l n c) o := by
  have H := Lib.hid h
  have PN := Lib.hid (cnone p w (by obtain ⟨v, h1, h2, h3⟩ := h; exact h1.cell 0))
  clear h
  by_cases hc : c < 0 ∨ 32 < c ∨ 65535 < n / 2 ^ c.toNat
  · have HE := Lib.hid (show riceE n c = 1 from if_pos hc)
    have HL := Lib.hid (show riceL l n c = l from if_pos hc)
    by_cases h0 : c < 0
    · have d1 : decide (c < 0) = true := decide_eq_true h0
      clear hc
      go_enter Try.func35, Try.ntmps35
      go_wp2
      go_step3
      go_wp2_with fail
      refine PN.out.mono ?_
      rintro e w1 ⟨rfl, rfl⟩
      go_wp2
      try rw [Exit.noGoto_ret]
      go_ret
      exact ⟨by rw [HE.out]; rfl, by rw [HL.out]; exact Grew.refl H.out⟩
    · have d1 : decide (c < 0) = false := decide_eq_false h0
      by_cases h1 : 32 < c
      · have d2 : decide (32 < c) = true := decide_eq_true h1
        clear hc
        go_enter Try.func35, Try.ntmps35
        go_wp2
        go_step3
        go_wp2_with fail
        refine PN.out.mono ?_
        rintro e w1 ⟨rfl, rfl⟩
        go_wp2
        try rw [Exit.noGoto_ret]
        go_ret
        exact ⟨by rw [HE.out]; rfl, by rw [HL.out]; exact Grew.refl H.out⟩
      · have d2 : decide (32 < c) = false := decide_eq_false h1
        have hC : c = (c.toNat : Int) := by omega
        have hC2 : c.toNat ≤ 32 := by omega
        have hq : 65535 < n / 2 ^ c.toNat := by omega
        generalize c.toNat = C at *
        subst hC
        have hq0 : (n : Int) / 2 ^ C = ((n / 2 ^ C : Nat) : Int) := by rw [Int.natCast_ediv, Int.natCast_pow]; rfl
        generalize n / 2 ^ C = q at *
        have hq1 : (n : Int) / 2 ^ (min C 64) = (q : Int) := by rw [Nat.min_eq_left (by omega)]; exact hq0
        clear hc
        go_enter Try.func35, Try.ntmps35
        go_wp2
        go_step3
        go_wp2_with fail
        refine PN.out.mono ?_
        rintro e w1 ⟨rfl, rfl⟩
        go_wp2
        try rw [Exit.noGoto_ret]
        go_ret
        exact ⟨by rw [HE.out]; rfl, by rw [HL.out]; exact Grew.refl H.out⟩
  · have HE := Lib.hid (show riceE n c = 0 from if_neg hc)
    have HL := Lib.hid (show riceL l n c = l ++ List.replicate (n / 2 ^ c.toNat) true ++ [false] ++ bitsOf n c.toNat from if_neg hc)
    have HBE := Lib.hid (show bitsE c = 0 from if_neg (by omega))
    have HBL := Lib.hid (fun l => show bitsL l n c = l ++ bitsOf n c.toNat from if_neg (by omega))
    have d1 : decide (c < 0) = false := decide_eq_false (by omega)
    have d2 : decide (32 < c) = false := decide_eq_false (by omega)
    have hC : c = (c.toNat : Int) := by omega
    have hC2 : c.toNat ≤ 32 := by omega
    have hq : n / 2 ^ c.toNat ≤ 65535 := by omega
    clear hc
    generalize c.toNat = C at *
    subst hC
    have hq0 : (n : Int) / 2 ^ C = ((n / 2 ^ C : Nat) : Int) := by rw [Int.natCast_ediv, Int.natCast_pow]; rfl
    generalize n / 2 ^ C = q at *
    have hq1 : (n : Int) / 2 ^ (min C 64) = (q : Int) := by rw [Nat.min_eq_left (by omega)]; exact hq0
    go_enter Try.func35, Try.ntmps35
    go_wp2
    refine wp_scope_jumps 0 (fun a' wx => ∃ (k : Nat) (m : List Bool) (u3 u4 u5 u6 u8 u9 u10 u11 u12 u13 u14 u15 u16 u17 u18 u19 u20 u21 u22 u23 u24 u25 u26 u27 u28 u29 u30 u31 u32 u33 u34 u35 u36 u37 u38 : Value), a' = { tmps := #[.pointer (some ⟨p, 0, none⟩), .int .u64 (n : Int), .int .i64 (C : Int), u3, u4, u5, u6, .int .u64 (k : Int), u8, u9, u10, u11, u12, u13, u14, u15, u16, u17, u18, u19, u20, u21, u22, u23, u24, u25, u26, u27, u28, u29, u30, u31, u32, u33, u34, u35, u36, u37, u38], defers := [] } ∧ Hid (m ++ List.replicate k true = l ++ List.replicate q true ∧ m.length + k = l.length + q ∧ k ≤ q ∧ Grew w wx p m o)) (fun a' _ => uOf (a'.tmps.getD 7 undef)) rfl ?_ ?_
    · go_wp2_with fail
      refine PN.out.mono ?_
      rintro e w1 ⟨rfl, rfl⟩
      rcases q with _ | j
      · have HM := Lib.hid (show l ++ List.replicate 0 true = l ++ List.replicate 0 true ∧ l.length + 0 = l.length + 0 ∧ 0 ≤ 0 ∧ Grew w w p l o from ⟨rfl, rfl, Nat.le_refl _, Grew.refl H.out⟩)
        obtain ⟨e1, e2, ekq, o1, q1, q2, q3⟩ := HM.out
        have PP := Lib.hid (cput p l false o1 w q1 (by omega))
        have PB := Lib.hid (fun o' w' h => cbits p (l ++ [false]) n C o' w' h (by simp; omega) hn)
        have HQ := Lib.hid (And.intro q2 (And.intro q3 (Lib.hid e1)))
        clear q1 q2 q3 e1 e2 ekq HM
        go_wp2_with fail
        go_step3
        go_wp2_with fail
        refine PP.out.mono ?_
        rintro e w1 ⟨rfl, o2, g1, g2, g3⟩
        have PB2 := Lib.hid (PB.out o2 w1 g1)
        have HG := Lib.hid (And.intro g2 g3)
        clear g1 g2 g3
        go_wp2_with fail
        refine PB2.out.mono ?_
        rintro e w2 ⟨rfl, HB⟩
        rw [HBE.out]
        have HB := Lib.hid HB
        go_wp2
        simp only [Exit.jump]
        go_ret
        obtain ⟨q2, q3, e1⟩ := HQ.out
        have e1 : l ++ List.replicate 0 true = l ++ List.replicate 0 true := rfl
        have e3 := Grew.more q2 q3 (Grew.more HG.out.1 HG.out.2 HB.out)
        rw [HBL.out] at e3
        exact ⟨by rw [HE.out]; rfl, by rw [HL.out, List.replicate_zero, List.append_nil]; exact e3⟩
      · have HM := Lib.hid (show l ++ List.replicate (j + 1) true = l ++ List.replicate (j + 1) true ∧ l.length + (j + 1) = l.length + (j + 1) ∧ j + 1 ≤ j + 1 ∧ Grew w w p l o from ⟨rfl, rfl, Nat.le_refl _, Grew.refl H.out⟩)
        obtain ⟨e1, e2, ekq, o1, q1, q2, q3⟩ := HM.out
        have hj : j ≤ 65535 := by omega
        have PP := Lib.hid (cput p l true o1 w q1 (by omega))
        have HQ := Lib.hid (And.intro q2 (And.intro q3 (And.intro e1 (And.intro e2 ekq))))
        clear q1 q2 q3 e1 e2 ekq HM
        obtain ⟨z, hz⟩ : ∃ z : Int, z = ((j + 1 : Nat) : Int) := ⟨_, rfl⟩
        rw [← hz] at hq0 hq1
        have z0 : 0 < z := by omega
        have z1 : z ≤ 65535 := by omega
        have z2 := Lib.hid hz
        clear hz hq
        go_wp2_with fail
        go_step3
        go_wp2_with fail
        refine PP.out.mono ?_
        rintro e w1 ⟨rfl, HG⟩
        have HG := Lib.hid HG
        go_wp2
        go_step3
        obtain ⟨q2, q3, e1, e2, ekq⟩ := HQ.out
        have e1 : l ++ List.replicate (j + 1) true = l ++ List.replicate (j + 1) true := rfl
        rw [show z - 1 = (j : Int) from by have := z2.out; omega]
        exact ⟨rfl, ⟨j, l ++ [true], _, _, _, _, _, _, _, _, _, _, _, _, _, _, _, _, _, _, _, _, _, _, _, _, _, _, _, _, _, _, _, _, _, _, _, rfl, ⟨by rw [← e1, List.append_assoc]; rfl, by simp; omega, by omega, Grew.more q2 q3 HG.out⟩⟩⟩
    · rintro a' wr ⟨k, m, u3, u4, u5, u6, u8, u9, u10, u11, u12, u13, u14, u15, u16, u17, u18, u19, u20, u21, u22, u23, u24, u25, u26, u27, u28, u29, u30, u31, u32, u33, u34, u35, u36, u37, u38, rfl, HM⟩
      rcases k with _ | j
      ·
        obtain ⟨e1, e2, ekq, o1, q1, q2, q3⟩ := HM.out
        have PP := Lib.hid (cput p m false o1 wr q1 (by omega))
        have PB := Lib.hid (fun o' w' h => cbits p (m ++ [false]) n C o' w' h (by simp; omega) hn)
        have HQ := Lib.hid (And.intro q2 (And.intro q3 (Lib.hid e1)))
        clear q1 q2 q3 e1 e2 ekq HM
        go_wp2_with fail
        refine PP.out.mono ?_
        rintro e w1 ⟨rfl, o2, g1, g2, g3⟩
        have PB2 := Lib.hid (PB.out o2 w1 g1)
        have HG := Lib.hid (And.intro g2 g3)
        clear g1 g2 g3
        go_wp2_with fail
        refine PB2.out.mono ?_
        rintro e w2 ⟨rfl, HB⟩
        rw [HBE.out]
        have HB := Lib.hid HB
        go_wp2
        simp only [Exit.jump]
        go_ret
        obtain ⟨q2, q3, e1⟩ := HQ.out
        have e1 := e1.out
        have e3 := Grew.more q2 q3 (Grew.more HG.out.1 HG.out.2 HB.out)
        rw [List.replicate_zero, List.append_nil] at e1
        rw [HBL.out, e1] at e3
        exact ⟨by rw [HE.out]; rfl, by rw [HL.out]; exact e3⟩
      ·
        obtain ⟨e1, e2, ekq, o1, q1, q2, q3⟩ := HM.out
        have hj : j ≤ 65535 := by omega
        have PP := Lib.hid (cput p m true o1 wr q1 (by omega))
        have HQ := Lib.hid (And.intro q2 (And.intro q3 (And.intro e1 (And.intro e2 ekq))))
        clear q1 q2 q3 e1 e2 ekq HM
        go_wp2_with fail
        refine PP.out.mono ?_
        rintro e w1 ⟨rfl, HG⟩
        have HG := Lib.hid HG
        go_wp2
        go_step3
        obtain ⟨q2, q3, e1, e2, ekq⟩ := HQ.out
        refine ⟨rfl, ⟨j, m ++ [true], _, _, _, _, _, _, _, _, _, _, _, _, _, _, _, _, _, _, _, _, _, _, _, _, _, _, _, _, _, _, _, _, _, _, _, rfl, ⟨by rw [← e1, List.append_assoc]; rfl, by simp; omega, by omega, Grew.more q2 q3 HG.out⟩⟩, ?_⟩
        simp [uOf]
end Go.Proofs.Ytppcccocnmhbgaa
end

section
/- The document's writer of bits. -/
namespace Go.Proofs.Ytppcccocnmhbgaa
open Go Go.RowKit
set_option maxRecDepth 100000
set_option linter.unusedSimpArgs false

/-- the document's writer, in memory -/
def RAt (w : World) (r : Nat) (l : List Bool) (o : Option Nat) : Prop :=
  ∃ v, Blk w r #[v] 73 ∧ RowV w 4 1 v l.length (l.map Value.bool) o ∧ o ≠ some r
theorem boolinfo : (Try.prog.info? 4).map (fun i => (i.zero, i.size, i.bytes)) = some (some (.bool false), 1, 1) := by kernel_rfl
/-- the document's writer grew -/
def RGrew (w w' : World) (p : Nat) (l : List Bool) (o : Option Nat) : Prop := ∃ o', RAt w' p l o' ∧ (∀ g, o' = some g → o = some g ∨ w.heap.size ≤ g) ∧ Keep (foot p o) w w'
theorem RGrew.refl {w : World} {p : Nat} {l : List Bool} {o : Option Nat} (h : RAt w p l o) : RGrew w w p l o := ⟨o, h, fun _ h => .inl h, Keep.refl _ _⟩
theorem RGrew.more {w w1 w2 : World} {p : Nat} {l : List Bool} {o o1 : Option Nat} (h : ∀ g, o1 = some g → o = some g ∨ w.heap.size ≤ g) (hk : Keep (foot p o) w w1) (k : RGrew w1 w2 p l o1) : RGrew w w2 p l o := by
  obtain ⟨o2, k1, k2, k3⟩ := k
  refine ⟨o2, k1, fun g hg => ?_, hk.trans' k3 fun k e => ?_⟩
  · rcases k2 g hg with e | e
    · exact h g e
    · exact .inr (Nat.le_trans hk.size e)
  · rcases e with e | e
    · exact .inl (.inl e)
    · exact (h k e).imp .inr id
theorem rbit (r : Nat) (l : List Bool) (b : Bool) (o : Option Nat) (w : World) (h : RAt w r l o) (hl : l.length ≤ 1099511627776) :
    Calls Try.prog 74 #[.pointer (some ⟨r, 0, none⟩), .bool b] w fun e w' => e = .returned (.tuple #[]) ∧ RGrew w w' r (l ++ [b]) o := by
  obtain ⟨v, h1, h2, h3⟩ := h
  obtain ⟨i0, hi, hz0, hz1, hz2⟩ := info_parts boolinfo
  obtain ⟨g, cap, w1, hrun, hrow, hg, hk⟩ := rowV_append1 (P := Try.prog) 71 71 i0 (.bool false) Try.underlying71 hi hz0 hz1 hz2 rfl h2 (.bool b) rfl (by unfold maxLen; omega) (by omega)
  have n1 : g ≠ r := by
    rcases hg with hg | hg
    · intro e; exact h3 (by rw [hg, e])
    · have := h1.lt; omega
  have B1 := hk.blk h1 (fun e => h3 e)
  have c := h1.cell
  have c' := B1.cell
  have f' := B1.free
  obtain ⟨vp, vc, rfl, _⟩ := h2.form
  have HB := Lib.hid B1
  have HR := Lib.hid hrow
  have HK := Lib.hid hk
  have HG := Lib.hid hg
  clear h1 h2 h3 hrow hk hg B1
  go_enter Try.func74, Try.ntmps74
  go_wp2_with (at_builtin; refine wpl_append rfl _ _ 71 rfl rfl rfl hrun ?_)
  go_end0
  have K1 := Keep.set (X := fun k => k = r) (Keep.refl _ w1) (p := ⟨r, 0, none⟩) (.inl rfl) (.slice (some ⟨g, 0, none⟩) (l.length + 1) cap)
  refine ⟨rfl, some g, ⟨_, HB.out.set 0 _, ?_, fun e => n1 (Option.some.inj e)⟩, fun g' e => by cases e; exact HG.out, (HK.out.mono fun k e => .inr e).trans (K1.mono fun k e => .inl e)⟩
  have h4 := HR.out.keep K1 (fun k hk e => n1 (by cases hk; exact e))
  rw [show (l ++ [b]).length = l.length + 1 from by simp, List.map_append]
  exact h4
set_option maxHeartbeats 1600000 in
theorem rbits (p : Nat) (l : List Bool) (n : Nat) (c : Int) (o : Option Nat) (w : World) (h : RAt w p l o) (hl : l.length ≤ 1099511627000) (hn : n < 18446744073709551616) :
    Calls Try.prog 75 #[.pointer (some ⟨p, 0, none⟩), .int .u64 (n : Int), .int .i64 c] w fun e w' => e = .returned (.int .i64 (bitsE c)) ∧ RGrew w w' p (bitsL l n c) o := by
  have H := Lib.hid h
  clear h
  by_cases hc : c < 0 ∨ 64 < c
  · have HE := Lib.hid (show bitsE c = 1 from if_pos hc)
    have HL := Lib.hid (show bitsL l n c = l from if_pos hc)
    by_cases h0 : c < 0
    · have d1 : decide (c < 0) = true := decide_eq_true h0
      clear hc
      go_enter Try.func75, Try.ntmps75
      go_wp2
      go_ret
      exact ⟨by rw [HE.out]; rfl, by rw [HL.out]; exact RGrew.refl H.out⟩
    · have d1 : decide (c < 0) = false := decide_eq_false h0
      have d2 : decide (64 < c) = true := decide_eq_true (by omega)
      clear hc
      go_enter Try.func75, Try.ntmps75
      go_wp2
      go_ret
      exact ⟨by rw [HE.out]; rfl, by rw [HL.out]; exact RGrew.refl H.out⟩
  · have HE := Lib.hid (show bitsE c = 0 from if_neg hc)
    have HL := Lib.hid (show bitsL l n c = l ++ bitsOf n c.toNat from if_neg hc)
    have d1 : decide (c < 0) = false := decide_eq_false (by omega)
    have d2 : decide (64 < c) = false := decide_eq_false (by omega)
    have hC : c = (c.toNat : Int) := by omega
    have hC2 : c.toNat ≤ 64 := by omega
    generalize c.toNat = C at *
    subst hC
    clear hc
    go_enter Try.func75, Try.ntmps75
    go_wp2
    go_loopg [7] C (fun g a wx => ∃ (k : Nat) (z : Int) (m : List Bool), k ≤ C ∧ a = .int .i64 z ∧ z = (k : Int) - 1 ∧ g = k ∧ Hid (m ++ bitsOf n k = l ++ bitsOf n C ∧ m.length + k = l.length + C ∧ RGrew w wx p m o))
    case atStart => exact ⟨C, _, l, Nat.le_refl _, rfl, rfl, rfl, rfl, rfl, RGrew.refl H.out⟩
    case round =>
      obtain ⟨k, z, m, hk, rfl, hz, hg, HM⟩ := hrel
      rcases k with _ | j
      · obtain rfl : z = -1 := by omega
        clear hz hg
        go_wp2
        go_ret
        obtain ⟨e1, _, e2⟩ := HM.out
        rw [bitsOf, List.append_nil] at e1
        exact ⟨by rw [HE.out]; rfl, by rw [HL.out, ← e1]; exact e2⟩
      · obtain rfl : z = (j : Int) := by omega
        obtain ⟨e1, e2, o1, q1, q2, q3⟩ := HM.out
        have hj64 : j ≤ 63 := by omega
        have hb0 := bit_put n j hn
        have hb := hb0
        rw [← Nat.min_eq_left (show j ≤ 64 from by omega)] at hb
        rw [show n.testBit (min j 64) = n.testBit j from by rw [Nat.min_eq_left (show j ≤ 64 from by omega)]] at hb
        have hbb := tb_eq (n.testBit j)
        have PP := Lib.hid (rbit p m (n.testBit j) o1 wr q1 (by omega))
        have HQ := Lib.hid (And.intro q2 (And.intro q3 (And.intro e1 (And.intro e2 (And.intro hg hk)))))
        clear q1 q2 q3 e1 e2 hg hz hk HM
        go_wp2_with fail
        refine PP.out.mono ?_
        rintro e w1 ⟨rfl, HG⟩
        have HG := Lib.hid HG
        go_wp2
        go_roundg j
        case measure => obtain ⟨_, _, _, _, e, _⟩ := HQ.out; rw [e]; exact Nat.lt_succ_self j
        case rel =>
          obtain ⟨q2, q3, e1, e2, hg, hk⟩ := HQ.out
          refine ⟨j, (j : Int) - 1, m ++ [n.testBit j], by omega, rfl, rfl, rfl, ?_, ?_, RGrew.more q2 q3 HG.out⟩
          · rw [← e1, bitsOf, List.append_assoc]; rfl
          · simp; omega
set_option maxHeartbeats 1600000 in
theorem rrice (p : Nat) (l : List Bool) (n : Nat) (c : Int) (o : Option Nat) (w : World) (h : RAt w p l o) (hl : l.length ≤ 1099511000000) (hn : n < 18446744073709551616) :
    Calls Try.prog 40 #[.pointer (some ⟨p, 0, none⟩), .int .u64 (n : Int), .int .i64 c] w fun e w' => e = .returned (.int .i64 (riceE n c)) ∧ RGrew w w' p (riceL l n c) o := by
  have H := Lib.hid h
  clear h
  by_cases hc : c < 0 ∨ 32 < c ∨ 65535 < n / 2 ^ c.toNat
  · have HE := Lib.hid (show riceE n c = 1 from if_pos hc)
    have HL := Lib.hid (show riceL l n c = l from if_pos hc)
    by_cases h0 : c < 0
    · have d1 : decide (c < 0) = true := decide_eq_true h0
      clear hc
      go_enter Try.func40, Try.ntmps40
      go_wp2
      go_ret
      exact ⟨by rw [HE.out]; rfl, by rw [HL.out]; exact RGrew.refl H.out⟩
    · have d1 : decide (c < 0) = false := decide_eq_false h0
      by_cases h1 : 32 < c
      · have d2 : decide (32 < c) = true := decide_eq_true h1
        clear hc
        go_enter Try.func40, Try.ntmps40
        go_wp2
        go_ret
        exact ⟨by rw [HE.out]; rfl, by rw [HL.out]; exact RGrew.refl H.out⟩
      · have d2 : decide (32 < c) = false := decide_eq_false h1
        have hC : c = (c.toNat : Int) := by omega
        have hC2 : c.toNat ≤ 32 := by omega
        have hq : 65535 < n / 2 ^ c.toNat := by omega
        generalize c.toNat = C at *
        subst hC
        have hq0 : (n : Int) / 2 ^ C = ((n / 2 ^ C : Nat) : Int) := by rw [Int.natCast_ediv, Int.natCast_pow]; rfl
        generalize n / 2 ^ C = q at *
        have hq1 : (n : Int) / 2 ^ (min C 64) = (q : Int) := by rw [Nat.min_eq_left (by omega)]; exact hq0
        clear hc
        go_enter Try.func40, Try.ntmps40
        go_wp2
        go_ret
        exact ⟨by rw [HE.out]; rfl, by rw [HL.out]; exact RGrew.refl H.out⟩
  · have HE := Lib.hid (show riceE n c = 0 from if_neg hc)
    have HL := Lib.hid (show riceL l n c = l ++ List.replicate (n / 2 ^ c.toNat) true ++ [false] ++ bitsOf n c.toNat from if_neg hc)
    have HBE := Lib.hid (show bitsE c = 0 from if_neg (by omega))
    have HBL := Lib.hid (fun l => show bitsL l n c = l ++ bitsOf n c.toNat from if_neg (by omega))
    have d1 : decide (c < 0) = false := decide_eq_false (by omega)
    have d2 : decide (32 < c) = false := decide_eq_false (by omega)
    have hC : c = (c.toNat : Int) := by omega
    have hC2 : c.toNat ≤ 32 := by omega
    have hq : n / 2 ^ c.toNat ≤ 65535 := by omega
    clear hc
    generalize c.toNat = C at *
    subst hC
    have hq0 : (n : Int) / 2 ^ C = ((n / 2 ^ C : Nat) : Int) := by rw [Int.natCast_ediv, Int.natCast_pow]; rfl
    generalize n / 2 ^ C = q at *
    have hq1 : (n : Int) / 2 ^ (min C 64) = (q : Int) := by rw [Nat.min_eq_left (by omega)]; exact hq0
    go_enter Try.func40, Try.ntmps40
    go_wp2
    go_loopg [22] q (fun g a wx => ∃ k : Nat, k ≤ q ∧ a = .int .u64 (k : Int) ∧ g = q - k ∧ Hid (RGrew w wx p (l ++ List.replicate k true) o))
    case atStart => exact ⟨0, Nat.zero_le _, rfl, rfl, by rw [List.replicate_zero, List.append_nil]; exact RGrew.refl H.out⟩
    case round =>
      obtain ⟨k, hk, rfl, hg, HM⟩ := hrel
      obtain ⟨o1, q1, q2, q3⟩ := HM.out
      by_cases hlt : k < q
      · have PP := Lib.hid (rbit p (l ++ List.replicate k true) true o1 wr q1 (by simp; omega))
        have HQ := Lib.hid (And.intro q2 (And.intro q3 hg))
        clear q1 q2 q3 hg HM
        go_wp2_with fail
        refine PP.out.mono ?_
        rintro e w1 ⟨rfl, HG⟩
        have HG := Lib.hid HG
        go_wp2
        go_roundg (q - (k + 1))
        case measure => obtain ⟨_, _, e⟩ := HQ.out; rw [e]; omega
        case rel =>
          obtain ⟨q2, q3, _⟩ := HQ.out
          have e3 := RGrew.more q2 q3 HG.out
          rw [List.append_assoc, ← List.replicate_succ'] at e3
          exact ⟨k + 1, by omega, rfl, rfl, e3⟩
      · obtain rfl : k = q := by omega
        have PP := Lib.hid (rbit p (l ++ List.replicate k true) false o1 wr q1 (by simp; omega))
        have PB := Lib.hid (fun o' w' h => rbits p (l ++ List.replicate k true ++ [false]) n C o' w' h (by simp; omega) hn)
        have HQ := Lib.hid (And.intro q2 q3)
        clear q1 q2 q3 HM hg
        go_wp2_with fail
        refine PP.out.mono ?_
        rintro e w1 ⟨rfl, o2, g1, g2, g3⟩
        have PB2 := Lib.hid (PB.out o2 w1 g1)
        have HG := Lib.hid (And.intro g2 g3)
        clear g1 g2 g3
        go_wp2_with fail
        refine PB2.out.mono ?_
        rintro e w2 ⟨rfl, HB⟩
        rw [HBE.out]
        have HB := Lib.hid HB
        go_wp2
        go_ret
        have e3 := RGrew.more HQ.out.1 HQ.out.2 (RGrew.more HG.out.1 HG.out.2 HB.out)
        rw [HBL.out] at e3
        exact ⟨by rw [HE.out]; rfl, by rw [HL.out]; exact e3⟩
theorem shr_put (k : Nat) : (128 : Int) / 2 ^ (k % 8) = ((2 ^ (7 - k % 8) : Nat) : Int) := by
  have : k % 8 < 8 := Nat.mod_lt _ (by decide)
  rcases (by omega : k % 8 = 0 ∨ k % 8 = 1 ∨ k % 8 = 2 ∨ k % 8 = 3 ∨ k % 8 = 4 ∨ k % 8 = 5 ∨ k % 8 = 6 ∨ k % 8 = 7) with h | h | h | h | h | h | h | h <;> rw [h] <;> rfl
theorem or_partW (l : List Bool) (k : Nat) : bits .or .u8 ((accB l k (k / 8) : Nat) : Int) ((2 ^ (7 - k % 8) : Nat) : Int) = ((accB l k (k / 8) ||| 2 ^ (7 - k % 8) : Nat) : Int) :=
  u8_or_nat _ _ (accB_lt _ _ _) (by
    have : 2 ^ (7 - k % 8) ≤ 2 ^ 7 := Nat.pow_le_pow_right (by decide) (by omega)
    omega)
set_option maxHeartbeats 1600000 in
theorem rbytes (r : Nat) (l : List Bool) (o : Option Nat) (w : World) (h : RAt w r l o) (hl : l.length ≤ 1099511627776) :
    Calls Try.prog 42 #[.pointer (some ⟨r, 0, none⟩)] w fun e w' => ∃ g, e = .returned (.slice (some ⟨g, 0, none⟩) (pack l).length (pack l).length) ∧ Blk w' g (u8s (pack l)).toArray 5 ∧ w.heap.size ≤ g ∧ Below w.heap.size w w' := by
  obtain ⟨v, h1, h2, h3⟩ := h
  obtain ⟨q, cc, rfl, hle, hm, hq⟩ := h2.form
  have c := h1.cell
  have hlt := h1.lt
  have H2 := Lib.hid h2
  have hn8 : ((l.length : Int) + 7) / 8 = (nby l.length : Int) := by unfold nby; omega
  have hnb : ∀ k, k < l.length → k / 8 < nby l.length := fun k hk => by unfold nby; omega
  have hmk := run_make_row' (P := Try.prog) 26 5 (.int .u8 0) 1 Try.underlying26 u8info rfl .i64 .i64 (nby l.length) (by unfold nby; omega) (by unfold nby; omega)
  have hz := Lib.hid (show madeCells #[Value.int .u8 0] (nby l.length) = (u8s (part l 0)).toArray from by
    apply Array.ext'
    rw [toList_madeCells_one, part_zero])
  have HP := Lib.hid (pack_length l)
  have HNB := Lib.hid hnb
  have HQ := Lib.hid hq
  clear h1 h2 h3 hnb hq
  generalize hN : nby l.length = N at *
  clear hN
  go_enter Try.func42, Try.ntmps42
  go_wp2
  rw [hz.out]
  go_loopg [19] l.length (fun g a wx => ∃ k : Nat, k ≤ l.length ∧ a = .int .i64 (k : Int) ∧ g = l.length - k ∧ Hid (Below w.heap.size w wx ∧ Blk wx w.heap.size (u8s (part l k)).toArray 5))
  case atStart => exact ⟨0, Nat.zero_le _, rfl, rfl, (Below.refl _ _).alloc (Nat.le_refl _) _, Blk.new _ _ _⟩
  case round =>
    obtain ⟨k, hk, rfl, hg, HM⟩ := hrel
    by_cases hkl : k < l.length
    · obtain ⟨og, cap, rfl, hv, _, _, hog, hcell, _⟩ := H2.out.mem (by omega)
      cases hv
      have cb := hcell k (by omega)
      rw [List.getElem?_map, List.getElem?_eq_getElem hkl, Option.map_some] at cb
      rw [← HM.out.1.cell (p := ⟨og, k, none⟩) hog] at cb
      have hkn := HNB.out k hkl
      have hlw := HM.out.2.lt
      have cg : ∀ v, (u8s (part l k))[k / 8]? = some v → wr.cell? ⟨w.heap.size, k / 8, none⟩ = some v := fun v hv => by rw [HM.out.2.cell]; simpa using hv
      have fg := HM.out.2.free (k / 8)
      have sh := shr_put k
      have op := or_partW l k
      have HG := Lib.hid hg
      clear hcell hmk hg
      generalize hb : l[k] = b at *
      have hgd : l.getD k false = b := by simp [List.getD, hkl, hb]
      cases b with
      | false =>
        have HS := Lib.hid (part_skip l k hgd)
        clear cg hgd hb sh op
        go_wp2
        go_roundg (l.length - (k + 1))
        case measure => rw [HG.out]; omega
        case rel => exact ⟨k + 1, by omega, rfl, rfl, HM.out.1, by rw [HS.out]; exact HM.out.2⟩
      | true =>
        have HS := Lib.hid (part_one l k hgd)
        have cg := cg _ (u8part_get l k (k / 8) (by have := HNB.out k hkl; have := HP.out; rw [pack_length] at this; omega))
        clear hgd hb
        go_wp2
        go_region
        go_wp2
        go_roundg (l.length - (k + 1))
        case measure => rw [HG.out]; omega
        case rel =>
          have op2 := or_partW l k
          rw [show ((2 ^ (7 - k % 8) : Nat) : Int) = (2 : Int) ^ (7 - k % 8) from by simp] at op2
          rw [op2]
          refine ⟨k + 1, by omega, rfl, rfl, (HM.out.1.setCell (Nat.le_refl _) _).drew, ?_⟩
          have e := (HM.out.2.set (k / 8) (.int .u8 ((accB l k (k / 8) ||| 2 ^ (7 - k % 8) : Nat) : Int))).drew
          rw [List.setIfInBounds_toArray, ← HS.out] at e
          exact e
    · obtain rfl : k = l.length := by omega
      go_wp2
      go_ret
      exact ⟨w.heap.size, by rw [HP.out]; rfl, HM.out.2, Nat.le_refl _, HM.out.1⟩
end Go.Proofs.Ytppcccocnmhbgaa
end

section
/- The walks of layer 11: the writer's Bytes and New; the document's writer. -/
namespace Go.Proofs.Ytppcccocnmhbgaa
open Go Go.RowKit
set_option maxRecDepth 100000
set_option linter.unusedSimpArgs false

theorem cnew (w : World) : Calls Try.prog 34 #[] w fun e w' => ∃ p, e = .returned (.pointer (some ⟨p, 0, none⟩)) ∧ WAt w' p [] none ∧ w.heap.size ≤ p ∧ Below w.heap.size w w' := by
  go_enter Try.func34, Try.ntmps34
  go_wp2
  go_ret
  exact ⟨_, rfl, ⟨_, Blk.new _ _ _, RowV.nil _ _ _, fun h => by cases h⟩, Nat.le_refl _, (Below.refl _ _).alloc (Nat.le_refl _) _⟩
theorem cbytes (p : Nat) (l : List Bool) (o : Option Nat) (w : World) (h : WAt w p l o) (hl : l.length ≤ 1099511627776) :
    Calls Try.prog 37 #[.pointer (some ⟨p, 0, none⟩)] w fun e w' => ∃ q c o', e = .returned (.slice q (pack l).length c) ∧ Row w' 5 (.slice q (pack l).length c) (pack l) o' ∧ (∀ g, o' = some g → w.heap.size ≤ g) ∧ Below w.heap.size w w' := by
  obtain ⟨v, h1, h2, h3⟩ := h
  have hlen : (pack l).length ≤ 140737488355328 := by rw [pack_length]; unfold nby; omega
  have c := h1.cell
  have P := Lib.hid (cnone p w (h1.cell 0))
  have HR := h2.toRow
  generalize pack l = xs at *
  obtain ⟨q, cc, rfl, hb, hle, hm, hq⟩ := HR.form
  clear h1 h2 h3
  rcases hq with ⟨rfl, rfl, rfl, rfl⟩ | ⟨g, rfl, rfl, hg⟩
  · have Q := Lib.hid (Try.bytes_Clone_nil 0 0 w)
    go_enter Try.func37, Try.ntmps37
    go_wp2_with fail
    refine P.out.mono ?_
    rintro e w1 ⟨rfl, rfl⟩
    go_wp2_with fail
    refine Q.out.mono ?_
    rintro e w1 ⟨rfl, rfl⟩
    go_wp2
    go_ret
    exact ⟨none, 0, none, rfl, Row.nil _ _, fun g hg => by (cases hg), Below.refl _ _⟩
  · have Q := Lib.hid (Try.bytes_Clone_at ⟨g, 0, none⟩ xs.length cc xs w rfl hlen (fun i hi => by
      obtain ⟨b, o2, e1, hc⟩ := hb.at (by omega)
      simp at e1; obtain ⟨rfl, rfl⟩ := e1
      rw [Addr.add_lit]; exact hc i hi))
    clear HR hb
    go_enter Try.func37, Try.ntmps37
    go_wp2_with fail
    refine P.out.mono ?_
    rintro e w1 ⟨rfl, rfl⟩
    go_wp2_with fail
    refine Q.out.mono ?_
    rintro e w1 ⟨v', rfl, hown, hne, hbel⟩
    obtain ⟨o', r1, r2, r3⟩ := Row.of_owns hown
    obtain ⟨q', c', rfl, _⟩ := r1.form
    go_wp2
    go_ret
    exact ⟨q', c', o', rfl, r1, fun g hg => (r2 g hg).1, hbel⟩
end Go.Proofs.Ytppcccocnmhbgaa
end

section
/- filter.Build, walked. -/
namespace Go.Proofs.Ytppcccocnmhbgaa
open Go Go.RowKit
set_option linter.unusedSimpArgs false
set_option linter.unusedVariables false
set_option maxRecDepth 100000

theorem riceE_code {d : Nat} (h : d < 15700000000) : riceE d 19 = 0 := by
  have e : (19 : Int).toNat = 19 := rfl
  unfold riceE
  rw [e, if_neg (by
    have : (2 : Nat) ^ 19 = 524288 := by decide
    rw [this]; omega)]
set_option maxHeartbeats 6400000 in
theorem pbuild (n : Nat) (a0 : Option Addr) (len cap : Nat) (A : Nat → Option Addr) (C : Nat → Nat) (Z : Nat → List Int) (w : World) (hR : RowsIn w a0 len A C Z) (hl : len ≤ 5000000000000) :
    Calls Try.prog 11 #[hv n, .slice a0 len cap] w fun e w' => Below w.heap.size w w' ∧ (20000 < len → e = .returned (.tuple #[.slice none 0 0, .int .i64 4])) ∧ (len ≤ 20000 → ∃ p c o, e = .returned (.tuple #[.slice p (buildS n (unlikeN Z len)).length c, .int .i64 0]) ∧ Row w' 5 (.slice p (buildS n (unlikeN Z len)).length c) (buildS n (unlikeN Z len)) o ∧ (∀ g, o = some g → w.heap.size ≤ g)) := by
  have B0 := Blk.new w (hcs n) 23
  have K0 := (Below.refl w.heap.size w).alloc (Nat.le_refl _) (.cells (hcs n) 23)
  have HB := Lib.hid (And.intro B0 K0)
  have PU := Lib.hid (fun (wx : World) (hb : Below w.heap.size w wx) => ponce a0 len cap A C Z wx (hR.below hb) hl)
  clear B0 K0 hR
  by_cases hbig : 20000 < len
  · have d1 : decide ((20000 : Int) < (len : Int)) = true := decide_eq_true (by omega)
    have HBIG := Lib.hid hbig
    clear hbig
    go_enter Try.func11, Try.ntmps11
    go_wp2
    exact bodyPost_ret (results_tmp2 Try.results11 _ _ _) rfl ⟨HB.out.2, fun _ => rfl, fun h => absurd HBIG.out (by omega)⟩
  · have d1 : decide ((20000 : Int) < (len : Int)) = false := decide_eq_false (by omega)
    have HBIG := Lib.hid hbig
    clear hbig
    go_enter Try.func11, Try.ntmps11
    go_upto_region 1 with fail
    generalize w.alloc (.cells (hcs n) 23) = w0 at *
    generalize hgw : w.heap.size = G at *
    go_wp2_with fail
    refine (PU.out _ (by first | exact HB.out.2 | (rw [hgw]; exact HB.out.2))).mono ?_
    rintro e w1 ⟨⟨v, rfl, hlist⟩, hb1⟩
    have hmlen := unlikeN_len Z len
    generalize hits : unlikeN Z len = its at *
    have HITS := Lib.hid hits
    clear hits
    obtain ⟨q1, c1, A1, C1, rfl, hle1, hc1, hrows⟩ := hlist.rows
    obtain ⟨m, hm⟩ : ∃ m, m = its.length := ⟨_, rfl⟩
    have hm2 : m ≤ 20000 := by have := HBIG.out; omega
    have hvl : (its.map (itemV n m)).length = m := by rw [List.length_map, hm]
    have hvg : ∀ k, k < m → (its.map (itemV n m)).getD k 0 = itemV n m (its.getD k []) := fun k hk => by
      have : k < its.length := by omega
      simp [List.getD_eq_getElem?_getD, List.getElem?_map, List.getElem?_eq_getElem this]
    have hvb : ∀ v ∈ its.map (itemV n m), v < m * 784931 := fun v hv => by
      obtain ⟨Y, hY, rfl⟩ := List.mem_map.1 hv
      exact itemV_lt' n m Y (by have := List.length_pos_of_mem hY; omega)
    have hbs : buildS n its = filterS (sortN (its.map (itemV n m))) := by unfold buildS; rw [← hm]
    rw [← hm] at hle1 hrows ⊢
    have HBS := Lib.hid (And.intro hbs hm)
    generalize its.map (itemV n m) = vals at *
    have HV := Lib.hid (And.intro hvl (And.intro hvg hvb))
    have K1 := Lib.hid (HB.out.2.trans (hb1.mono (by rw [← hgw]; exact HB.out.2.size)))
    have BX1 := HB.out.1.beyond hb1
    have HR1 := Lib.hid hrows
    have PN := Lib.hid (under_any n m w1)
    have HGO := Lib.hid (show ∀ (o : Option Nat) (bs : List Int) (p : Option Addr) (c : Nat) (wx : World), bs = filterS (sortN vals) → Below G w wx → Row wx 5 (.slice p bs.length c) bs o → (∀ g, o = some g → G ≤ g) → Below G w wx ∧ (20000 < len → Ending.returned (.tuple #[.slice p bs.length c, .int .i64 0]) = .returned (.tuple #[.slice none 0 0, .int .i64 4])) ∧ (len ≤ 20000 → ∃ p' c' o', Ending.returned (.tuple #[.slice p bs.length c, .int .i64 0]) = .returned (.tuple #[.slice p' (buildS n its).length c', .int .i64 0]) ∧ Row wx 5 (.slice p' (buildS n its).length c') (buildS n its) o' ∧ (∀ g, o' = some g → G ≤ g)) from fun o bs p c wx hbs hB hRw ho => by
      rw [HBS.out.1, ← hbs]
      exact ⟨hB, fun h => absurd h HBIG.out, fun _ => ⟨p, c, o, rfl, hRw, ho⟩⟩)
    have hGw1 : G ≤ w1.heap.size := by rw [← hgw]; exact K1.out.size
    clear hb1 hlist hrows hvl hvg hvb hbs hm hmlen
    go_wp2_with (refine wpl_load rfl 23 (.tmp 2) rfl rfl BX1 Try.underlying23 (by rw [hcs_size]; kernel_rfl) ?_)
    refine PN.out.mono ?_
    rintro e w2 ⟨vf, rfl, HUN, hb2⟩
    have K2 := Lib.hid (K1.out.trans (hb2.mono hGw1))
    have hG2 : G ≤ w2.heap.size := by rw [← hgw]; exact K2.out.size
    have HR2 := Lib.hid (HR1.out.below hb2)
    have HUN := Lib.hid HUN
    obtain ⟨xa, xb, xc, hvf, _⟩ := HUN.out
    subst hvf
    clear hb2 BX1
    go_wp2
    go_loopg [8, 26] m (fun gh v i wx => ∃ k : Nat, k ≤ m ∧ i = .int .i64 (k : Int) ∧ gh = m - k ∧ Hid (NumsG wx w2.heap.size v (vals.take k) ∧ Below w2.heap.size w2 wx))
    case atStart => exact ⟨0, Nat.zero_le _, rfl, rfl, NumsG.nil _ _, Below.refl _ _⟩
    case round =>
      obtain ⟨k, hk, rfl, hg, HK⟩ := hrel
      have HG := Lib.hid hg
      clear hg
      by_cases hlt : k < m
      · obtain ⟨b, off, rfl, hc, hrow⟩ := (HR2.out.below HK.out.2) k hlt
        obtain ⟨xa', xb', xc', hvf, _, _, _, h0, h1, h2⟩ := HUN.out.below HK.out.2
        cases hvf
        have PR := pval n m xa xb xc (A1 k) (C1 k) (its.getD k []) wr hm2 hrow h0 h1 h2
        obtain ⟨x, hx⟩ : ∃ x, x = itemV n m (its.getD k []) := ⟨_, rfl⟩
        rw [← hx] at PR
        have HX : Hid (vals.take (k + 1) = vals.take k ++ [x]) := Lib.hid (by rw [take_snocN vals k (by rw [HV.out.1]; exact hlt), HV.out.2.1 k hlt, hx])
        obtain ⟨z, hz⟩ : ∃ z, z = (its.getD k []).length := ⟨_, rfl⟩
        rw [← hz] at hc PR
        have PR := Lib.hid PR
        obtain ⟨p, c, hv, _⟩ := HK.out.1.piece
        have hvt : (vals.take k).length = k := by rw [List.length_take, HV.out.1]; omega
        rw [hvt] at hv
        subst hv
        clear hrow hx hz h0 h1 h2
        go_wp2_with fail
        refine PR.out.mono ?_
        rintro e w3 ⟨rfl, hb3⟩
        have K3 := HK.out.2.trans (hb3.mono HK.out.2.size)
        have hN := HK.out.1.more hb3
        have ka := (Below.refl w3.heap.size w3).alloc (Nat.le_refl _) (.cells #[.int .u64 (x : Int)] 52)
        obtain ⟨v4, w4, run4, n4, b4, _⟩ := NumsG.app (W0 := w2) (w := w3.alloc (.cells #[.int .u64 (x : Int)] 52)) (K3.trans (ka.mono K3.size)) (hN.more ka) (piece_one ((Blk.new w3 #[.int .u64 (x : Int)] 52).cell 0)) (c := 1) (by rw [hvt]; simp; omega)
        have H4 := Lib.hid (And.intro n4 b4)
        rw [show ([x] : List Nat).length = 1 from rfl] at run4
        clear hb3 K3 hN ka n4 b4
        go_wp2_with (at_builtin; refine wpl_append rfl _ _ 47 rfl rfl rfl run4 ?_)
        go_roundg (m - (k + 1))
        case measure => rw [HG.out]; omega
        case rel => exact ⟨k + 1, hlt, rfl, rfl, by rw [HX.out]; exact H4.out.1, H4.out.2⟩
      · obtain rfl : k = m := by omega
        have hsv : vals.take k = vals := List.take_of_length_le (by rw [HV.out.1]; exact Nat.le_refl _)
        rw [hsv] at HK
        obtain ⟨wm, hwm⟩ : ∃ wm, wm = wr := ⟨_, rfl⟩
        subst hwm
        obtain ⟨p, c, hv, _⟩ := HK.out.1.piece
        have PS := sort_nums wm w2.heap.size _ vals HK.out.1 HK.out.2.size (by rw [HV.out.1]; omega)
        rw [HV.out.1] at hv
        subst hv
        obtain ⟨s, hs⟩ : ∃ s, s = sortN vals := ⟨_, rfl⟩
        rw [← hs] at PS
        have hsl : s.length = k := by rw [hs, sortN_length, HV.out.1]
        have hsp : s.Pairwise (· ≤ ·) := by rw [hs]; exact sortN_sorted _
        have hsb : ∀ x ∈ s, x < 15700000000 := fun x hx => by
          have h1 := HV.out.2.2 x ((mem_sortN _).1 (by rw [hs] at hx; exact hx))
          have h2 : k * 784931 ≤ 20000 * 784931 := Nat.mul_le_mul_right _ hm2
          omega
        have HS := Lib.hid (And.intro hs (And.intro hsl (And.intro hsp hsb)))
        have PS := Lib.hid PS
        clear hs hsl hsp hsb hsv
        go_wp2_with fail
        refine PS.out.mono ?_
        rintro e w3 ⟨rfl, hN3, hb3⟩
        have K3 := Lib.hid (K2.out.trans ((HK.out.2.trans hb3).mono hG2))
        have hpc : Piece w3 p s := by
          obtain ⟨p', c', e1, h1⟩ := hN3.piece
          cases e1
          exact h1
        have HPC := Lib.hid hpc
        have PW := Lib.hid (cnew w3)
        clear hN3 hb3 hpc HK
        go_wp2_with fail
        refine PW.out.mono ?_
        rintro e w4 ⟨r, rfl, hw0, hr3, hb4⟩
        have HW0 := Lib.hid (And.intro hw0 hb4)
        have hG3 : G ≤ w3.heap.size := by rw [← hgw]; exact K3.out.size
        clear hw0 hb4
        go_wp2
        go_loopg [42] k (fun gh i wx => ∃ j : Nat, j ≤ k ∧ i = .int .i64 (j : Int) ∧ gh = k - j ∧ Hid (∃ o, WAt wx r (codes 0 (s.take j)) o ∧ (∀ g, o = some g → w3.heap.size ≤ g) ∧ Below w3.heap.size w3 wx))
        case atStart => exact ⟨0, Nat.zero_le _, rfl, rfl, none, HW0.out.1, fun g hg => (by cases hg), HW0.out.2⟩
        case round =>
          obtain ⟨j, hj, rfl, hg, HR⟩ := hrel
          have HG2 := Lib.hid hg
          clear hg
          obtain ⟨o, ra, ho, hb⟩ := HR.out
          have hcl0 := codes_len (l := s.take j) (last := 0) (fun x hx => HS.out.2.2.2 x (List.mem_of_mem_take hx))
          have hcl1 : (codes 0 (s.take j)).length ≤ 600000000 := by
            have h1 : (s.take j).length ≤ 20000 := by rw [List.length_take, HS.out.2.1]; omega
            have h2 : (s.take j).length * 30000 ≤ 20000 * 30000 := Nat.mul_le_mul_right _ h1
            omega
          clear hcl0
          by_cases hlt : j < k
          · have hjs : j < s.length := by rw [HS.out.2.1]; exact hlt
            obtain ⟨b, off, hp, hcl⟩ := (HPC.out.below hb) (by omega)
            subst hp
            have cy := hcl j hjs
            have hts := take_snocN s j hjs
            have hly := last_le HS.out.2.2.1 hjs
            have hyb : s.getD j 0 < 15700000000 := HS.out.2.2.2 _ (by rw [List.getD_eq_getElem?_getD, List.getElem?_eq_getElem hjs]; exact List.getElem_mem hjs)
            have HC := Lib.hid (codes_snoc (s.getD j 0) (s.take j) 0)
            generalize s.getD j 0 = y at *
            rcases j with _ | i
            · have hd0 : decide ((0 : Int) < 0) = false := rfl
              have hl0 : lastOf 0 (s.take 0) = 0 := rfl
              rw [hl0] at HC hly
              obtain ⟨d, rfl⟩ : ∃ d, d = y := ⟨y, rfl⟩
              have hd : True := trivial
              rw [Nat.sub_zero] at HC
              rw [Nat.add_zero] at cy
              have hdb : d < 15700000000 := by omega
              clear hcl hl0
              have PR := crice r (codes 0 (s.take 0)) d 19 o wr ra (by omega) (by omega)
              rw [riceL_code _ hdb, riceE_code hdb] at PR
              have PR := Lib.hid PR
              have HT := Lib.hid (And.intro hts (And.intro ho hb))
              clear hts ho hb ra HR hd hyb
              go_wp2_with fail
              refine PR.out.mono ?_
              rintro e w5 ⟨rfl, HGR⟩
              have HGR := Lib.hid HGR
              go_wp2
              go_roundg (k - (0 + 1))
              case measure => rw [HG2.out]; omega
              case rel =>
                obtain ⟨o5, q1, q2, q3⟩ := HGR.out
                refine ⟨0 + 1, hlt, rfl, rfl, o5, by rw [HT.out.1, HC.out]; exact q1, fun g hg => ?_, HT.out.2.2.trans (q3.below HT.out.2.2.size (fun x e => ?_))⟩
                · rcases q2 g hg with e | e
                  · exact HT.out.2.1 g e
                  · exact Nat.le_trans HT.out.2.2.size e
                · rcases e with e | e
                  · rw [e]; exact hr3
                  · exact HT.out.2.1 _ e
            · have d0 : decide ((0 : Int) < (i : Int) + 1) = true := decide_eq_true (by omega)
              have cl := hcl i (by omega)
              have hll : lastOf 0 (s.take (i + 1)) = s.getD i 0 := by rw [take_snocN s i (by omega), lastOf_snoc]
              rw [hll] at HC hly
              generalize s.getD i 0 = l at *
              obtain ⟨d, hd⟩ : ∃ d, d = y - l := ⟨_, rfl⟩
              have hsub : (y : Int) - (l : Int) = (d : Int) := by omega
              rw [← hd] at HC
              have hdb : d < 15700000000 := by omega
              clear hcl hly hll
              have PR := crice r (codes 0 (s.take (i + 1))) d 19 o wr ra (by omega) (by omega)
              rw [riceL_code _ hdb, riceE_code hdb] at PR
              have PR := Lib.hid PR
              have HT := Lib.hid (And.intro hts (And.intro ho hb))
              clear hts ho hb ra HR hd hyb
              go_wp2_with fail
              refine PR.out.mono ?_
              rintro e w5 ⟨rfl, HGR⟩
              have HGR := Lib.hid HGR
              go_wp2
              go_roundg (k - ((i + 1) + 1))
              case measure => rw [HG2.out]; omega
              case rel =>
                obtain ⟨o5, q1, q2, q3⟩ := HGR.out
                refine ⟨(i + 1) + 1, hlt, rfl, rfl, o5, by rw [HT.out.1, HC.out]; exact q1, fun g hg => ?_, HT.out.2.2.trans (q3.below HT.out.2.2.size (fun x e => ?_))⟩
                · rcases q2 g hg with e | e
                  · exact HT.out.2.1 g e
                  · exact Nat.le_trans HT.out.2.2.size e
                · rcases e with e | e
                  · rw [e]; exact hr3
                  · exact HT.out.2.1 _ e
          · obtain rfl : j = k := by omega
            have hall : s.take j = s := List.take_of_length_le (by rw [HS.out.2.1]; exact Nat.le_refl _)
            rw [hall] at ra hcl1
            obtain ⟨i0, hi, hz0, hz1, hz2⟩ := info_parts u8inf
            have PE := Lib.hid (penc j (by omega) wr)
            have HI := Lib.hid (And.intro hi (And.intro hz0 (And.intro hz1 hz2)))
            have HRA := Lib.hid (And.intro ra (And.intro ho hb))
            have HF : Hid (filterS (sortN vals) = encS j ++ pack (codes 0 s)) := Lib.hid (by rw [← HS.out.1]; unfold filterS; rw [HS.out.2.1])
            have hel := encS_len j
            have hpl : (pack (codes 0 s)).length ≤ 75000001 := by rw [pack_length]; unfold nby; omega
            clear ra ho hb HR hall hi hz0 hz1 hz2
            go_wp2_with fail
            refine PE.out.mono ?_
            rintro e w5 ⟨p5, c5, o5, rfl, R5, ho5, hb5⟩
            have ra5 : WAt w5 r (codes 0 s) o := by
              obtain ⟨v, h1, h2, h3⟩ := HRA.out.1
              exact ⟨v, h1.beyond hb5, h2.keep (Keep.of_below (X := fun _ => False) hb5) (fun _ _ h => h), h3⟩
            have PB := Lib.hid (cbytes r (codes 0 s) o w5 ra5 (by omega))
            have HR5 := Lib.hid (And.intro R5 (And.intro ho5 hb5))
            clear R5 ho5 hb5 ra5
            go_wp2_with fail
            refine PB.out.mono ?_
            rintro e w6 ⟨q6, c6, o6, rfl, R6', _, hb6⟩
            have R6 := HR5.out.1.keep (Keep.of_below (X := fun _ => False) hb6) (fun _ _ h => h)
            obtain ⟨q6', c6', e6, hy6, _⟩ := R6'.form
            cases e6
            obtain ⟨v7, w7, o7, run7, R7, ho7, k7⟩ := row_appendL (P := Try.prog) 26 26 i0 (.int .u8 0) Try.underlying26 HI.out.1 HI.out.2.1 HI.out.2.2.1 HI.out.2.2.2 rfl R6 (p := q6) (c := c6) (ys := pack (codes 0 s)) hy6 (by omega)
            have hGr3 : w3.heap.size ≤ wr.heap.size := HRA.out.2.2.size
            have K5 := K3.out.trans ((HRA.out.2.2.trans (HR5.out.2.2.mono hGr3)).mono hG3)
            have hG5 : G ≤ w5.heap.size := by rw [← hgw]; exact K5.size
            have K6 := K5.trans (hb6.mono hG5)
            have hst := own_step hgw K6 (fun g hg => Nat.le_trans (Nat.le_trans hG3 hGr3) (HR5.out.2.1 g hg)) ho7 k7
            obtain ⟨p7, c7, rfl, _⟩ := R7.form
            have H7 := Lib.hid (And.intro R7 hst)
            rw [List.length_append] at run7
            clear R6 R6' hb6 ho7 k7 K5 K6 hst R7 hy6
            generalize hL1 : (encS j).length = L1 at *
            generalize hL2 : (pack (codes 0 s)).length = L2 at *
            go_wp2_with (at_builtin; refine wpl_append rfl _ _ 26 rfl rfl rfl run7 ?_)
            have hR7 := H7.out.1
            have hfin := HGO.out o7 (encS j ++ pack (codes 0 s)) p7 c7 w7 HF.out.symm H7.out.2.2 hR7 H7.out.2.1
            rw [show (encS j ++ pack (codes 0 s)).length = L1 + L2 from by rw [List.length_append, hL1, hL2], ← HITS.out] at hfin
            subst hgw
            exact bodyPost_ret (results_tmp2 Try.results11 _ _ _) rfl hfin
end Go.Proofs.Ytppcccocnmhbgaa
end

section
/- What Build gives, read: plainly. -/
namespace Go.Proofs.Ytppcccocnmhbgaa
open Go Go.RowKit
set_option linter.unusedVariables false
set_option linter.unusedSimpArgs false

theorem mem_unlikeN {Z : Nat → List Int} : ∀ {k i : Nat}, i < k → Z i ≠ [] → Z i ∈ unlikeN Z k
  | k + 1, i, hi, h0 => by
    by_cases hc : Z k = [] ∨ Z k ∈ unlikeN Z k
    · rw [unlikeN_skip hc]
      rcases Nat.lt_or_ge i k with h | h
      · exact mem_unlikeN h h0
      · obtain rfl : i = k := by omega
        exact hc.resolve_left h0
    · rw [unlikeN_more hc, List.mem_append]
      rcases Nat.lt_or_ge i k with h | h
      · exact .inl (mem_unlikeN h h0)
      · obtain rfl : i = k := by omega
        exact .inr (by simp)
theorem mem_unlike_list {l : List (List Int)} {x : List Int} (hx : x ∈ l) (h0 : x ≠ []) : x ∈ unlikeN (fun i => l.getD i []) l.length := by
  obtain ⟨i, hi, rfl⟩ := List.mem_iff_getElem.1 hx
  have e : l.getD i [] = l[i] := by rw [List.getD_eq_getElem?_getD, List.getElem?_eq_getElem hi]; rfl
  have := mem_unlikeN (Z := fun i => l.getD i []) hi (by show l.getD i [] ≠ []; rw [e]; exact h0)
  rw [← e]; exact this
theorem mem_itemsL {l : List RwD} {r : RwD} (hr : r ∈ l) (h0 : r.z ≠ []) : r.z ∈ itemsL l := by
  obtain ⟨i, hi, rfl⟩ := List.mem_iff_getElem.1 hr
  have e : l.getD i rwNil = l[i] := by rw [List.getD_eq_getElem?_getD, List.getElem?_eq_getElem hi]; rfl
  have := mem_unlikeN (Z := fun i => (l.getD i rwNil).z) hi (by show (l.getD i rwNil).z ≠ []; rw [e]; exact h0)
  rw [← e]; exact this
theorem itemsL_mem {l : List RwD} {x : List Int} (h : x ∈ itemsL l) : ∃ r ∈ l, r.z = x := by
  obtain ⟨i, hi, e⟩ := unlikeN_mem h
  rw [List.getD_eq_getElem?_getD, List.getElem?_eq_getElem hi] at e
  exact ⟨l[i], List.getElem_mem hi, e.symm⟩
/-- the numbers of the items, in order, are in what Build writes -/
theorem values_build {n : Nat} {U : List (List Int)} (hU : U.length ≤ 20000) : valuesS (buildS n U) = some (sortN (U.map (itemV n U.length))) := by
  refine valuesS_filterS (by rw [sortN_length, List.length_map]; exact hU) (sortN_sorted _) (fun v hv => ?_)
  rw [sortN_length, List.length_map]
  obtain ⟨Y, hY, rfl⟩ := List.mem_map.1 ((mem_sortN _).1 hv)
  exact itemV_lt' n _ Y (List.length_pos_of_mem hY)
theorem match_build {n : Nat} {U : List (List Int)} {x : List Int} (hx : x ∈ U) (h0 : x ≠ []) : matchB n (sortN (U.map (itemV n U.length))) x = true := by
  unfold matchB
  rw [sortN_length, List.length_map]
  have h1 : 0 < x.length := List.length_pos_iff.2 h0
  have h2 : itemV n U.length x ∈ sortN (U.map (itemV n U.length)) := (mem_sortN _).2 (List.mem_map_of_mem hx)
  simp [h1, h2]
/-- what Build writes is bytes, and not too many -/
theorem encS_range (n : Nat) : ∀ y ∈ encS n, 0 ≤ y ∧ y ≤ 255 := by
  have hle : ∀ k, ∀ y ∈ leB n k, 0 ≤ y ∧ y ≤ 255 := fun k y hy => by
    obtain ⟨i, _, rfl⟩ := List.mem_map.1 hy
    omega
  intro y hy
  unfold encS at hy
  split at hy
  · have : y = (n : Int) := by simpa using hy
    omega
  · split at hy
    · rcases List.mem_cons.1 hy with rfl | h
      · decide
      · exact hle _ y h
    · split at hy
      · rcases List.mem_cons.1 hy with rfl | h
        · decide
        · exact hle _ y h
      · rcases List.mem_cons.1 hy with rfl | h
        · decide
        · exact hle _ y h
theorem pack_rangeH (l : List Bool) : ∀ y ∈ pack l, 0 ≤ y ∧ y ≤ 255 := fun y hy => by
  obtain ⟨i, _, rfl⟩ := List.mem_map.1 hy
  have := accB_lt l l.length i
  omega
theorem buildS_range (n : Nat) (U : List (List Int)) : ∀ y ∈ buildS n U, 0 ≤ y ∧ y ≤ 255 := fun y hy => by
  rcases List.mem_append.1 hy with h | h
  · exact encS_range _ y h
  · exact pack_rangeH _ y h
theorem buildS_len {n : Nat} {U : List (List Int)} (hU : U.length ≤ 20000) : (buildS n U).length ≤ 100000000 := by
  unfold buildS filterS
  rw [List.length_append, pack_length]
  have h1 := encS_len (sortN (U.map (itemV n U.length))).length
  have hs : (sortN (U.map (itemV n U.length))).length = U.length := by rw [sortN_length, List.length_map]
  have h2 := codes_len (l := sortN (U.map (itemV n U.length))) (last := 0) (fun v hv => by
    obtain ⟨Y, hY, rfl⟩ := List.mem_map.1 ((mem_sortN _).1 hv)
    have h1 := itemV_lt' n U.length Y (List.length_pos_of_mem hY)
    have h2 : U.length * 784931 ≤ 20000 * 784931 := Nat.mul_le_mul_right _ hU
    omega)
  rw [hs] at h2
  have h3 : U.length * 30000 ≤ 20000 * 30000 := Nat.mul_le_mul_right _ hU
  unfold nby
  omega
end Go.Proofs.Ytppcccocnmhbgaa
end
