/- The walk of the reader's Rice: a loop by goto. -/
import Derived.Test.YtppcccocnmhbgaaReadB
namespace Go.Proofs.Ytppcccocnmhbgaa
open Go Go.RowKit
set_option maxRecDepth 100000
set_option linter.unusedSimpArgs false

theorem or_rice (q C V : Nat) (hq : q * 2 ^ C < 18446744073709551616) (hC : C ≤ 63) (hV : V < 2 ^ C) : bits .or .u64 ((q : Int) * 2 ^ C) (V : Int) = ((q * 2 ^ C + V : Nat) : Int) := by
  have e : (q : Int) * 2 ^ C = ((q * 2 ^ C : Nat) : Int) := by rw [Int.natCast_mul, Int.natCast_pow]; rfl
  have hV2 : V < 18446744073709551616 := by
    have : 2 ^ C ≤ 2 ^ 63 := Nat.pow_le_pow_right (by decide) hC
    omega
  rw [e, or_u64 _ _ hq hV2]
  congr 1
  rw [Nat.mul_comm q]
  exact (Nat.two_pow_add_eq_or_of_lt hV q).symm
set_option maxRecDepth 100000 in
set_option maxHeartbeats 3200000 in
theorem vrice (r q C most : Nat) (t : List Bool) (w : World) (h : RdAt w r (List.replicate q true ++ false :: t)) (hqm : q ≤ most) (hm : most < 18446744073709551616) (hC : C ≤ 32) (hCt : C ≤ t.length) (hfit : q * 2 ^ C < 18446744073709551616) :
    Calls Try.prog 50 #[.pointer (some ⟨r, 0, none⟩), .int .i64 (C : Int), .int .u64 (most : Int)] w fun e w' => e = .returned (.tuple #[.int .u64 ((q * 2 ^ C + valOf (t.take C) : Nat) : Int), .int .i64 0]) ∧ RdAt w' r (t.drop C) ∧ Keep (fun k => k = r) w w' := by
  have PN := Lib.hid (vnone r w (by obtain ⟨q, c, t, Z, h1, _⟩ := h; exact h1.cell 0))
  have hVl : valOf (t.take C) < 2 ^ C := by
    have := valOf_lt (t.take C)
    rw [List.length_take, Nat.min_eq_left hCt] at this; exact this
  obtain ⟨V, hV0⟩ : ∃ V, valOf (t.take C) = V := ⟨_, rfl⟩
  have hV := Lib.hid hV0
  rw [hV0] at hVl ⊢
  clear hV0
  have hor := or_rice q C V hfit (by omega) hVl
  have hsh : (q : Int) * 2 ^ C < 18446744073709551616 := by
    have e : (q : Int) * 2 ^ C = ((q * 2 ^ C : Nat) : Int) := by rw [Int.natCast_mul, Int.natCast_pow]; rfl
    rw [e]; omega
  have hsh0 : (0 : Int) ≤ (q : Int) * 2 ^ C := Int.mul_nonneg (by omega) (Int.pow_nonneg (by decide))
  have hmin : min C 64 = C := Nat.min_eq_left (by omega)
  have H := Lib.hid h
  have d1 : decide ((C : Int) < 0) = false := decide_eq_false (by omega)
  have d2 : decide (32 < (C : Int)) = false := decide_eq_false (by omega)
  clear h
  go_enter Try.func50, Try.ntmps50
  go_wp2
  refine wp_scope_jumps 0 (fun a' wx => ∃ (k z : Nat) (u3 u4 u5 u6 u7 u9 u10 u11 u12 u13 u14 u15 u16 u17 u18 u19 u20 u21 u22 u23 u24 u25 u26 u27 u28 u29 u30 u31 u32 u33 u34 u35 u36 u37 u38 u39 u40 u41 u42 u43 u44 u45 u46 u47 u48 u49 u50 u51 u52 u53 u54 u55 : Value), a' = { tmps := #[.pointer (some ⟨r, 0, none⟩), .int .i64 (C : Int), .int .u64 (most : Int), u3, u4, u5, u6, u7, .int .u64 (k : Int), u9, u10, u11, u12, u13, u14, u15, u16, u17, u18, u19, u20, u21, u22, u23, u24, u25, u26, u27, u28, u29, u30, u31, u32, u33, u34, u35, u36, u37, u38, u39, u40, u41, u42, u43, u44, u45, u46, u47, u48, u49, u50, u51, u52, u53, u54, u55], defers := [] } ∧ Hid (k + z = q ∧ RdAt wx r (List.replicate z true ++ false :: t) ∧ Keep (fun k => k = r) w wx)) (fun a' _ => q - uOf (a'.tmps.getD 8 undef)) rfl ?_ ?_
  · go_wp2_with fail
    refine PN.out.mono ?_
    rintro e w1 ⟨rfl, rfl⟩
    rcases hzq : q with _ | j
    · have HM := Lib.hid (show 0 + 0 = q ∧ RdAt w r (List.replicate 0 true ++ false :: t) ∧ Keep (fun k => k = r) w w from ⟨by omega, by have := H.out; rw [hzq] at this; exact this, Keep.refl _ _⟩)
      obtain ⟨e1, q1, q2⟩ := HM.out
      have hq0 : q = 0 := by omega
      rw [List.replicate_zero, List.nil_append] at q1
      have PP := Lib.hid (vbit r false t w q1)
      have PV := Lib.hid (fun w' h => vbits r t C w' h (by omega) hCt)
      have HQ := Lib.hid q2
      clear q1 q2 e1 HM
      go_wp2_with fail
      go_step3
      go_wp2_with fail
      refine PP.out.mono ?_
      rintro e w1 ⟨rfl, h1, h2⟩
      have PB := Lib.hid (PV.out w1 h1)
      have H2 := Lib.hid h2
      clear h1 h2
      rw [hV.out] at PB
      go_wp2_with fail
      refine PB.out.mono ?_
      rintro e w2 ⟨rfl, h3, h4⟩
      have H3 := Lib.hid h3
      have H4 := Lib.hid h4
      clear h3 h4
      go_wp2
      simp only [Exit.jump]
      go_ret2
      have hor0 : bits .or .u64 0 (V : Int) = (V : Int) := by have := hor; rw [hq0] at this; simpa using this
      refine ⟨?_, H3.out, HQ.out.trans (H2.out.trans H4.out)⟩
      show Ending.returned (.tuple #[.int .u64 (bits .or .u64 0 (V : Int)), .int .i64 0]) = _
      rw [hor0, hq0, Nat.zero_mul, Nat.zero_add]
    · have HM := Lib.hid (show 0 + (j + 1) = q ∧ RdAt w r (List.replicate (j + 1) true ++ false :: t) ∧ Keep (fun k => k = r) w w from ⟨by omega, by have := H.out; rw [hzq] at this; exact this, Keep.refl _ _⟩)
      clear hzq
      obtain ⟨e1, q1, q2⟩ := HM.out
      rw [List.replicate_succ, List.cons_append] at q1
      have PP := Lib.hid (vbit r true _ w q1)
      have hkm : ((0 : Int) == (most : Int)) = false := beq_false_of_ne (by omega)
      have hk64 : (0 : Nat) < 18446744073709551615 := by omega
      have HQ := Lib.hid (And.intro q2 e1)
      clear q1 q2 e1 HM
      go_wp2_with fail
      go_step3
      go_wp2_with fail
      refine PP.out.mono ?_
      rintro e w1 ⟨rfl, h1, h2⟩
      have H1 := Lib.hid h1
      have H2 := Lib.hid h2
      clear h1 h2
      go_wp2
      go_step3
      obtain ⟨q2, e1⟩ := HQ.out
      exact ⟨rfl, ⟨0 + 1, j, _, _, _, _, _, _, _, _, _, _, _, _, _, _, _, _, _, _, _, _, _, _, _, _, _, _, _, _, _, _, _, _, _, _, _, _, _, _, _, _, _, _, _, _, _, _, _, _, _, _, _, _, rfl, ⟨by omega, H1.out, q2.trans H2.out⟩⟩⟩
  · rintro a' wr ⟨k, z, u3, u4, u5, u6, u7, u9, u10, u11, u12, u13, u14, u15, u16, u17, u18, u19, u20, u21, u22, u23, u24, u25, u26, u27, u28, u29, u30, u31, u32, u33, u34, u35, u36, u37, u38, u39, u40, u41, u42, u43, u44, u45, u46, u47, u48, u49, u50, u51, u52, u53, u54, u55, rfl, HM⟩
    rcases z with _ | j
    ·
      obtain ⟨e1, q1, q2⟩ := HM.out
      obtain rfl : k = q := by omega
      rw [List.replicate_zero, List.nil_append] at q1
      have PP := Lib.hid (vbit r false t wr q1)
      have PV := Lib.hid (fun w' h => vbits r t C w' h (by omega) hCt)
      have HQ := Lib.hid q2
      clear q1 q2 e1 HM
      go_wp2_with fail
      refine PP.out.mono ?_
      rintro e w1 ⟨rfl, h1, h2⟩
      have PB := Lib.hid (PV.out w1 h1)
      have H2 := Lib.hid h2
      clear h1 h2
      rw [hV.out] at PB
      go_wp2_with fail
      refine PB.out.mono ?_
      rintro e w2 ⟨rfl, h3, h4⟩
      have H3 := Lib.hid h3
      have H4 := Lib.hid h4
      clear h3 h4
      go_wp2
      simp only [Exit.jump]
      go_ret2
      refine ⟨?_, H3.out, HQ.out.trans (H2.out.trans H4.out)⟩
      rw [show ((k * 2 ^ C + V : Nat) : Int) = (k : Int) * 2 ^ C + V from by simp]; rfl
    ·
      obtain ⟨e1, q1, q2⟩ := HM.out
      rw [List.replicate_succ, List.cons_append] at q1
      have PP := Lib.hid (vbit r true _ wr q1)
      have hkm : ((k : Int) == (most : Int)) = false := beq_false_of_ne (by omega)
      have hk64 : (k : Nat) < 18446744073709551615 := by omega
      have HQ := Lib.hid (And.intro q2 e1)
      clear q1 q2 e1 HM
      go_wp2_with fail
      refine PP.out.mono ?_
      rintro e w1 ⟨rfl, h1, h2⟩
      have H1 := Lib.hid h1
      have H2 := Lib.hid h2
      clear h1 h2
      go_wp2
      go_step3
      obtain ⟨q2, e1⟩ := HQ.out
      refine ⟨rfl, ⟨k + 1, j, _, _, _, _, _, _, _, _, _, _, _, _, _, _, _, _, _, _, _, _, _, _, _, _, _, _, _, _, _, _, _, _, _, _, _, _, _, _, _, _, _, _, _, _, _, _, _, _, _, _, _, _, rfl, ⟨by omega, H1.out, q2.trans H2.out⟩⟩, ?_⟩
      simp [uOf]; omega
end Go.Proofs.Ytppcccocnmhbgaa
