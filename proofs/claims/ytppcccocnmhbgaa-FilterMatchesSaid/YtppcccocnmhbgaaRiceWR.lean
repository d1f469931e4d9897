/- The walk of the writer's Rice: a loop by goto. -/
import Derived.Test.YtppcccocnmhbgaaRiceWB
namespace Go.Proofs.Ytppcccocnmhbgaa
open Go Go.RowKit
set_option maxRecDepth 100000
set_option linter.unusedSimpArgs false

def uOf : Value → Nat | .int _ z => z.toNat | _ => 0
set_option maxHeartbeats 3200000 in
theorem crice (p : Nat) (l : List Bool) (n : Nat) (c : Int) (o : Option Nat) (w : World) (h : WAt w p l o) (hl : l.length ≤ 1099511000000) (hn : n < 18446744073709551616) :
    Calls Try.prog 35 #[.pointer (some ⟨p, 0, none⟩), .int .u64 (n : Int), .int .i64 c] w fun e w' => e = .returned (.int .i64 (riceE n c)) ∧ Grew w w' p (riceL l n c) o := by
  have H := Lib.hid h
  have PN := Lib.hid (cnone p w (by obtain ⟨v, h1, h2, h3⟩ := h; exact h1.cell 0))
  clear h
  by_cases hc : c < 0 ∨ 32 < c ∨ 65535 < n / 2 ^ c.toNat
  · have HE := Lib.hid (show riceE n c = 1 from if_pos hc)
    have HL := Lib.hid (show riceL l n c = l from if_pos hc)
    by_cases h0 : c < 0
    · have d1 : decide (c < 0) = true := decide_eq_true h0
      clear hc
      go_enter Try.func35, Try.ntmps35
      go_wp2
      go_step3
      go_wp2_with fail
      refine PN.out.mono ?_
      rintro e w1 ⟨rfl, rfl⟩
      go_wp2
      try rw [Exit.noGoto_ret]
      go_ret
      exact ⟨by rw [HE.out]; rfl, by rw [HL.out]; exact Grew.refl H.out⟩
    · have d1 : decide (c < 0) = false := decide_eq_false h0
      by_cases h1 : 32 < c
      · have d2 : decide (32 < c) = true := decide_eq_true h1
        clear hc
        go_enter Try.func35, Try.ntmps35
        go_wp2
        go_step3
        go_wp2_with fail
        refine PN.out.mono ?_
        rintro e w1 ⟨rfl, rfl⟩
        go_wp2
        try rw [Exit.noGoto_ret]
        go_ret
        exact ⟨by rw [HE.out]; rfl, by rw [HL.out]; exact Grew.refl H.out⟩
      · have d2 : decide (32 < c) = false := decide_eq_false h1
        have hC : c = (c.toNat : Int) := by omega
        have hC2 : c.toNat ≤ 32 := by omega
        have hq : 65535 < n / 2 ^ c.toNat := by omega
        generalize c.toNat = C at *
        subst hC
        have hq0 : (n : Int) / 2 ^ C = ((n / 2 ^ C : Nat) : Int) := by rw [Int.natCast_ediv, Int.natCast_pow]; rfl
        generalize n / 2 ^ C = q at *
        have hq1 : (n : Int) / 2 ^ (min C 64) = (q : Int) := by rw [Nat.min_eq_left (by omega)]; exact hq0
        clear hc
        go_enter Try.func35, Try.ntmps35
        go_wp2
        go_step3
        go_wp2_with fail
        refine PN.out.mono ?_
        rintro e w1 ⟨rfl, rfl⟩
        go_wp2
        try rw [Exit.noGoto_ret]
        go_ret
        exact ⟨by rw [HE.out]; rfl, by rw [HL.out]; exact Grew.refl H.out⟩
  · have HE := Lib.hid (show riceE n c = 0 from if_neg hc)
    have HL := Lib.hid (show riceL l n c = l ++ List.replicate (n / 2 ^ c.toNat) true ++ [false] ++ bitsOf n c.toNat from if_neg hc)
    have HBE := Lib.hid (show bitsE c = 0 from if_neg (by omega))
    have HBL := Lib.hid (fun l => show bitsL l n c = l ++ bitsOf n c.toNat from if_neg (by omega))
    have d1 : decide (c < 0) = false := decide_eq_false (by omega)
    have d2 : decide (32 < c) = false := decide_eq_false (by omega)
    have hC : c = (c.toNat : Int) := by omega
    have hC2 : c.toNat ≤ 32 := by omega
    have hq : n / 2 ^ c.toNat ≤ 65535 := by omega
    clear hc
    generalize c.toNat = C at *
    subst hC
    have hq0 : (n : Int) / 2 ^ C = ((n / 2 ^ C : Nat) : Int) := by rw [Int.natCast_ediv, Int.natCast_pow]; rfl
    generalize n / 2 ^ C = q at *
    have hq1 : (n : Int) / 2 ^ (min C 64) = (q : Int) := by rw [Nat.min_eq_left (by omega)]; exact hq0
    go_enter Try.func35, Try.ntmps35
    go_wp2
    refine wp_scope_jumps 0 (fun a' wx => ∃ (k : Nat) (m : List Bool) (u3 u4 u5 u6 u8 u9 u10 u11 u12 u13 u14 u15 u16 u17 u18 u19 u20 u21 u22 u23 u24 u25 u26 u27 u28 u29 u30 u31 u32 u33 u34 u35 u36 u37 u38 : Value), a' = { tmps := #[.pointer (some ⟨p, 0, none⟩), .int .u64 (n : Int), .int .i64 (C : Int), u3, u4, u5, u6, .int .u64 (k : Int), u8, u9, u10, u11, u12, u13, u14, u15, u16, u17, u18, u19, u20, u21, u22, u23, u24, u25, u26, u27, u28, u29, u30, u31, u32, u33, u34, u35, u36, u37, u38], defers := [] } ∧ Hid (m ++ List.replicate k true = l ++ List.replicate q true ∧ m.length + k = l.length + q ∧ k ≤ q ∧ Grew w wx p m o)) (fun a' _ => uOf (a'.tmps.getD 7 undef)) rfl ?_ ?_
    · go_wp2_with fail
      refine PN.out.mono ?_
      rintro e w1 ⟨rfl, rfl⟩
      rcases q with _ | j
      · have HM := Lib.hid (show l ++ List.replicate 0 true = l ++ List.replicate 0 true ∧ l.length + 0 = l.length + 0 ∧ 0 ≤ 0 ∧ Grew w w p l o from ⟨rfl, rfl, Nat.le_refl _, Grew.refl H.out⟩)
        obtain ⟨e1, e2, ekq, o1, q1, q2, q3⟩ := HM.out
        have PP := Lib.hid (cput p l false o1 w q1 (by omega))
        have PB := Lib.hid (fun o' w' h => cbits p (l ++ [false]) n C o' w' h (by simp; omega) hn)
        have HQ := Lib.hid (And.intro q2 (And.intro q3 (Lib.hid e1)))
        clear q1 q2 q3 e1 e2 ekq HM
        go_wp2_with fail
        go_step3
        go_wp2_with fail
        refine PP.out.mono ?_
        rintro e w1 ⟨rfl, o2, g1, g2, g3⟩
        have PB2 := Lib.hid (PB.out o2 w1 g1)
        have HG := Lib.hid (And.intro g2 g3)
        clear g1 g2 g3
        go_wp2_with fail
        refine PB2.out.mono ?_
        rintro e w2 ⟨rfl, HB⟩
        rw [HBE.out]
        have HB := Lib.hid HB
        go_wp2
        simp only [Exit.jump]
        go_ret
        obtain ⟨q2, q3, e1⟩ := HQ.out
        have e1 : l ++ List.replicate 0 true = l ++ List.replicate 0 true := rfl
        have e3 := Grew.more q2 q3 (Grew.more HG.out.1 HG.out.2 HB.out)
        rw [HBL.out] at e3
        exact ⟨by rw [HE.out]; rfl, by rw [HL.out, List.replicate_zero, List.append_nil]; exact e3⟩
      · have HM := Lib.hid (show l ++ List.replicate (j + 1) true = l ++ List.replicate (j + 1) true ∧ l.length + (j + 1) = l.length + (j + 1) ∧ j + 1 ≤ j + 1 ∧ Grew w w p l o from ⟨rfl, rfl, Nat.le_refl _, Grew.refl H.out⟩)
        obtain ⟨e1, e2, ekq, o1, q1, q2, q3⟩ := HM.out
        have hj : j ≤ 65535 := by omega
        have PP := Lib.hid (cput p l true o1 w q1 (by omega))
        have HQ := Lib.hid (And.intro q2 (And.intro q3 (And.intro e1 (And.intro e2 ekq))))
        clear q1 q2 q3 e1 e2 ekq HM
        obtain ⟨z, hz⟩ : ∃ z : Int, z = ((j + 1 : Nat) : Int) := ⟨_, rfl⟩
        rw [← hz] at hq0 hq1
        have z0 : 0 < z := by omega
        have z1 : z ≤ 65535 := by omega
        have z2 := Lib.hid hz
        clear hz hq
        go_wp2_with fail
        go_step3
        go_wp2_with fail
        refine PP.out.mono ?_
        rintro e w1 ⟨rfl, HG⟩
        have HG := Lib.hid HG
        go_wp2
        go_step3
        obtain ⟨q2, q3, e1, e2, ekq⟩ := HQ.out
        have e1 : l ++ List.replicate (j + 1) true = l ++ List.replicate (j + 1) true := rfl
        rw [show z - 1 = (j : Int) from by have := z2.out; omega]
        exact ⟨rfl, ⟨j, l ++ [true], _, _, _, _, _, _, _, _, _, _, _, _, _, _, _, _, _, _, _, _, _, _, _, _, _, _, _, _, _, _, _, _, _, _, _, rfl, ⟨by rw [← e1, List.append_assoc]; rfl, by simp; omega, by omega, Grew.more q2 q3 HG.out⟩⟩⟩
    · rintro a' wr ⟨k, m, u3, u4, u5, u6, u8, u9, u10, u11, u12, u13, u14, u15, u16, u17, u18, u19, u20, u21, u22, u23, u24, u25, u26, u27, u28, u29, u30, u31, u32, u33, u34, u35, u36, u37, u38, rfl, HM⟩
      rcases k with _ | j
      ·
        obtain ⟨e1, e2, ekq, o1, q1, q2, q3⟩ := HM.out
        have PP := Lib.hid (cput p m false o1 wr q1 (by omega))
        have PB := Lib.hid (fun o' w' h => cbits p (m ++ [false]) n C o' w' h (by simp; omega) hn)
        have HQ := Lib.hid (And.intro q2 (And.intro q3 (Lib.hid e1)))
        clear q1 q2 q3 e1 e2 ekq HM
        go_wp2_with fail
        refine PP.out.mono ?_
        rintro e w1 ⟨rfl, o2, g1, g2, g3⟩
        have PB2 := Lib.hid (PB.out o2 w1 g1)
        have HG := Lib.hid (And.intro g2 g3)
        clear g1 g2 g3
        go_wp2_with fail
        refine PB2.out.mono ?_
        rintro e w2 ⟨rfl, HB⟩
        rw [HBE.out]
        have HB := Lib.hid HB
        go_wp2
        simp only [Exit.jump]
        go_ret
        obtain ⟨q2, q3, e1⟩ := HQ.out
        have e1 := e1.out
        have e3 := Grew.more q2 q3 (Grew.more HG.out.1 HG.out.2 HB.out)
        rw [List.replicate_zero, List.append_nil] at e1
        rw [HBL.out, e1] at e3
        exact ⟨by rw [HE.out]; rfl, by rw [HL.out]; exact e3⟩
      ·
        obtain ⟨e1, e2, ekq, o1, q1, q2, q3⟩ := HM.out
        have hj : j ≤ 65535 := by omega
        have PP := Lib.hid (cput p m true o1 wr q1 (by omega))
        have HQ := Lib.hid (And.intro q2 (And.intro q3 (And.intro e1 (And.intro e2 ekq))))
        clear q1 q2 q3 e1 e2 ekq HM
        go_wp2_with fail
        refine PP.out.mono ?_
        rintro e w1 ⟨rfl, HG⟩
        have HG := Lib.hid HG
        go_wp2
        go_step3
        obtain ⟨q2, q3, e1, e2, ekq⟩ := HQ.out
        refine ⟨rfl, ⟨j, m ++ [true], _, _, _, _, _, _, _, _, _, _, _, _, _, _, _, _, _, _, _, _, _, _, _, _, _, _, _, _, _, _, _, _, _, _, _, rfl, ⟨by rw [← e1, List.append_assoc]; rfl, by simp; omega, by omega, Grew.more q2 q3 HG.out⟩⟩, ?_⟩
        simp [uOf]
end Go.Proofs.Ytppcccocnmhbgaa
