/- The reader's walks where it fails. -/
import Derived.Test.YtppcccocnmhbgaaReadR
namespace Go.Proofs.Ytppcccocnmhbgaa
open Go Go.RowKit
set_option maxRecDepth 100000
set_option linter.unusedSimpArgs false

theorem vbit0 (r : Nat) (w : World) (h : RdAt w r []) :
    Calls Try.prog 83 #[.pointer (some ⟨r, 0, none⟩)] w fun e w' => e = .returned (.tuple #[.bool false, .int .i64 50]) ∧ Keep (fun k => k = r) w w' := by
  have PN := Lib.hid (vnone r w (by obtain ⟨q, c, t, Z, h1, _⟩ := h; exact h1.cell 0))
  have PL := Lib.hid (vleft r [] w h)
  clear h
  go_enter Try.func83, Try.ntmps83
  go_wp2_with fail
  refine PN.out.mono ?_
  rintro e w1 ⟨rfl, rfl⟩
  go_wp2_with fail
  refine PL.out.mono ?_
  rintro e w1 ⟨rfl, rfl⟩
  go_wp2
  go_ret2
  exact ⟨rfl, (Keep.refl (fun k => k = r) w).drew⟩
theorem vbitsE (r : Nat) (s : List Bool) (C : Nat) (w : World) (h : RdAt w r s) (hC : C ≤ 64) (hs : s.length < C) :
    Calls Try.prog 52 #[.pointer (some ⟨r, 0, none⟩), .int .i64 (C : Int)] w fun e w' => e = .returned (.tuple #[.int .u64 0, .int .i64 50]) ∧ Keep (fun k => k = r) w w' := by
  have hlen := h.len
  have PN := Lib.hid (vnone r w (by obtain ⟨q, c, t, Z, h1, _⟩ := h; exact h1.cell 0))
  have PL := Lib.hid (vleft r s w h)
  have hl : decide ((s.length : Int) < (C : Int)) = true := decide_eq_true (by omega)
  have hl2 : decide (s.length < C) = true := decide_eq_true (by omega)
  have d1 : decide ((C : Int) < 0) = false := decide_eq_false (by omega)
  have d2 : decide (64 < (C : Int)) = false := decide_eq_false (by omega)
  clear h
  go_enter Try.func52, Try.ntmps52
  go_wp2_with fail
  refine PN.out.mono ?_
  rintro e w1 ⟨rfl, rfl⟩
  go_wp2_with fail
  refine PL.out.mono ?_
  rintro e w1 ⟨rfl, rfl⟩
  go_wp2
  go_ret2
  exact ⟨rfl, (Keep.refl (fun k => k = r) w).drew⟩
set_option maxHeartbeats 6400000 in
theorem vriceF (r q C most : Nat) (T : List Bool) (w : World) (h : RdAt w r (List.replicate q true ++ T)) (hqm : q ≤ most) (hm : most < 18446744073709551616) (hC : C ≤ 32)
    (hf : T = [] ∨ (∃ t, T = false :: t ∧ t.length < C) ∨ (∃ t, T = true :: t ∧ q = most)) :
    Calls Try.prog 50 #[.pointer (some ⟨r, 0, none⟩), .int .i64 (C : Int), .int .u64 (most : Int)] w fun e w' => ∃ x : Int, (x = 50 ∨ x = 51) ∧ e = .returned (.tuple #[.int .u64 0, .int .i64 x]) ∧ Keep (fun k => k = r) w w' := by
  have PN := Lib.hid (vnone r w (by obtain ⟨q, c, t, Z, h1, _⟩ := h; exact h1.cell 0))
  have H := Lib.hid h
  have HF := Lib.hid hf
  have d1 : decide ((C : Int) < 0) = false := decide_eq_false (by omega)
  have d2 : decide (32 < (C : Int)) = false := decide_eq_false (by omega)
  clear h hf
  go_enter Try.func50, Try.ntmps50
  go_wp2
  refine wp_scope_jumps 0 (fun a' wx => ∃ (k z : Nat) (u3 u4 u5 u6 u7 u9 u10 u11 u12 u13 u14 u15 u16 u17 u18 u19 u20 u21 u22 u23 u24 u25 u26 u27 u28 u29 u30 u31 u32 u33 u34 u35 u36 u37 u38 u39 u40 u41 u42 u43 u44 u45 u46 u47 u48 u49 u50 u51 u52 u53 u54 u55 : Value), a' = { tmps := #[.pointer (some ⟨r, 0, none⟩), .int .i64 (C : Int), .int .u64 (most : Int), u3, u4, u5, u6, u7, .int .u64 (k : Int), u9, u10, u11, u12, u13, u14, u15, u16, u17, u18, u19, u20, u21, u22, u23, u24, u25, u26, u27, u28, u29, u30, u31, u32, u33, u34, u35, u36, u37, u38, u39, u40, u41, u42, u43, u44, u45, u46, u47, u48, u49, u50, u51, u52, u53, u54, u55], defers := [] } ∧ Hid (k + z = q ∧ RdAt wx r (List.replicate z true ++ T) ∧ Keep (fun k => k = r) w wx)) (fun a' _ => q - uOf (a'.tmps.getD 8 undef)) rfl ?_ ?_
  · go_wp2_with fail
    refine PN.out.mono ?_
    rintro e w1 ⟨rfl, rfl⟩
    rcases hzq : q with _ | j
    · have HM := Lib.hid (show 0 + 0 = q ∧ RdAt w r (List.replicate 0 true ++ T) ∧ Keep (fun k => k = r) w w from ⟨by omega, by have := H.out; rw [hzq] at this; exact this, Keep.refl _ _⟩)
      obtain ⟨e1, q1, q2⟩ := HM.out
      have hq0 : q = 0 := by omega
      rw [List.replicate_zero, List.nil_append] at q1
      have HQ := Lib.hid q2
      rcases HF.out with hT | ⟨t, hT, hCt⟩ | ⟨t, hT, hqm2⟩
      · rw [hT] at q1
        have PP := Lib.hid (vbit0 r w q1)
        clear q1 q2 e1 HM hT
        go_wp2_with fail
        go_step3
        go_wp2_with fail
        refine PP.out.mono ?_
        rintro e w1 ⟨rfl, h2⟩
        have H2 := Lib.hid h2
        clear h2
        go_wp2
        simp only [Exit.jump]
        go_ret2
        exact ⟨50, .inl rfl, rfl, HQ.out.trans H2.out⟩
      · rw [hT] at q1
        have PP := Lib.hid (vbit r false t w q1)
        have PV := Lib.hid (fun w' h => vbitsE r t C w' h (by omega) hCt)
        clear q1 q2 e1 HM hT
        go_wp2_with fail
        go_step3
        go_wp2_with fail
        refine PP.out.mono ?_
        rintro e w1 ⟨rfl, h1, h2⟩
        have PB := Lib.hid (PV.out w1 h1)
        have H2 := Lib.hid h2
        clear h1 h2
        go_wp2_with fail
        refine PB.out.mono ?_
        rintro e w2 ⟨rfl, h4⟩
        have H4 := Lib.hid h4
        clear h4
        go_wp2
        simp only [Exit.jump]
        go_ret2
        exact ⟨50, .inl rfl, rfl, HQ.out.trans (H2.out.trans H4.out)⟩
      · rw [hT] at q1
        have PP := Lib.hid (vbit r true t w q1)
        have hkm : ((0 : Int) == (most : Int)) = true := by rw [beq_iff_eq]; omega
        clear q1 q2 e1 HM hT
        go_wp2_with fail
        go_step3
        go_wp2_with fail
        refine PP.out.mono ?_
        rintro e w1 ⟨rfl, h1, h2⟩
        have H2 := Lib.hid h2
        clear h1 h2
        go_wp2
        simp only [Exit.jump]
        go_ret2
        exact ⟨51, .inr rfl, rfl, HQ.out.trans H2.out⟩
    · have HM := Lib.hid (show 0 + (j + 1) = q ∧ RdAt w r (List.replicate (j + 1) true ++ T) ∧ Keep (fun k => k = r) w w from ⟨by omega, by have := H.out; rw [hzq] at this; exact this, Keep.refl _ _⟩)
      clear hzq
      obtain ⟨e1, q1, q2⟩ := HM.out
      rw [List.replicate_succ, List.cons_append] at q1
      have PP := Lib.hid (vbit r true _ w q1)
      have hkm : ((0 : Int) == (most : Int)) = false := beq_false_of_ne (by omega)
      have hk64 : (0 : Nat) < 18446744073709551615 := by omega
      have HQ := Lib.hid (And.intro q2 e1)
      clear q1 q2 e1 HM
      go_wp2_with fail
      go_step3
      go_wp2_with fail
      refine PP.out.mono ?_
      rintro e w1 ⟨rfl, h1, h2⟩
      have H1 := Lib.hid h1
      have H2 := Lib.hid h2
      clear h1 h2
      go_wp2
      go_step3
      obtain ⟨q2, e1⟩ := HQ.out
      exact ⟨rfl, ⟨0 + 1, j, _, _, _, _, _, _, _, _, _, _, _, _, _, _, _, _, _, _, _, _, _, _, _, _, _, _, _, _, _, _, _, _, _, _, _, _, _, _, _, _, _, _, _, _, _, _, _, _, _, _, _, _, rfl, ⟨by omega, H1.out, q2.trans H2.out⟩⟩⟩
  · rintro a' wr ⟨k, z, u3, u4, u5, u6, u7, u9, u10, u11, u12, u13, u14, u15, u16, u17, u18, u19, u20, u21, u22, u23, u24, u25, u26, u27, u28, u29, u30, u31, u32, u33, u34, u35, u36, u37, u38, u39, u40, u41, u42, u43, u44, u45, u46, u47, u48, u49, u50, u51, u52, u53, u54, u55, rfl, HM⟩
    rcases z with _ | j
    ·
      obtain ⟨e1, q1, q2⟩ := HM.out
      obtain rfl : k = q := by omega
      rw [List.replicate_zero, List.nil_append] at q1
      have HQ := Lib.hid q2
      rcases HF.out with hT | ⟨t, hT, hCt⟩ | ⟨t, hT, hqm2⟩
      · rw [hT] at q1
        have PP := Lib.hid (vbit0 r wr q1)
        clear q1 q2 e1 HM hT
        go_wp2_with fail
        refine PP.out.mono ?_
        rintro e w1 ⟨rfl, h2⟩
        have H2 := Lib.hid h2
        clear h2
        go_wp2
        simp only [Exit.jump]
        go_ret2
        exact ⟨50, .inl rfl, rfl, HQ.out.trans H2.out⟩
      · rw [hT] at q1
        have PP := Lib.hid (vbit r false t wr q1)
        have PV := Lib.hid (fun w' h => vbitsE r t C w' h (by omega) hCt)
        clear q1 q2 e1 HM hT
        go_wp2_with fail
        refine PP.out.mono ?_
        rintro e w1 ⟨rfl, h1, h2⟩
        have PB := Lib.hid (PV.out w1 h1)
        have H2 := Lib.hid h2
        clear h1 h2
        go_wp2_with fail
        refine PB.out.mono ?_
        rintro e w2 ⟨rfl, h4⟩
        have H4 := Lib.hid h4
        clear h4
        go_wp2
        simp only [Exit.jump]
        go_ret2
        exact ⟨50, .inl rfl, rfl, HQ.out.trans (H2.out.trans H4.out)⟩
      · rw [hT] at q1
        have PP := Lib.hid (vbit r true t wr q1)
        have hkm : ((k : Int) == (most : Int)) = true := by rw [beq_iff_eq]; omega
        clear q1 q2 e1 HM hT
        go_wp2_with fail
        refine PP.out.mono ?_
        rintro e w1 ⟨rfl, h1, h2⟩
        have H2 := Lib.hid h2
        clear h1 h2
        go_wp2
        simp only [Exit.jump]
        go_ret2
        exact ⟨51, .inr rfl, rfl, HQ.out.trans H2.out⟩
    ·
      obtain ⟨e1, q1, q2⟩ := HM.out
      rw [List.replicate_succ, List.cons_append] at q1
      have PP := Lib.hid (vbit r true _ wr q1)
      have hkm : ((k : Int) == (most : Int)) = false := beq_false_of_ne (by omega)
      have hk64 : (k : Nat) < 18446744073709551615 := by omega
      have HQ := Lib.hid (And.intro q2 e1)
      clear q1 q2 e1 HM
      go_wp2_with fail
      refine PP.out.mono ?_
      rintro e w1 ⟨rfl, h1, h2⟩
      have H1 := Lib.hid h1
      have H2 := Lib.hid h2
      clear h1 h2
      go_wp2
      go_step3
      obtain ⟨q2, e1⟩ := HQ.out
      refine ⟨rfl, ⟨k + 1, j, _, _, _, _, _, _, _, _, _, _, _, _, _, _, _, _, _, _, _, _, _, _, _, _, _, _, _, _, _, _, _, _, _, _, _, _, _, _, _, _, _, _, _, _, _, _, _, _, _, _, _, _, rfl, ⟨by omega, H1.out, q2.trans H2.out⟩⟩, ?_⟩
      simp [uOf]; omega
end Go.Proofs.Ytppcccocnmhbgaa
