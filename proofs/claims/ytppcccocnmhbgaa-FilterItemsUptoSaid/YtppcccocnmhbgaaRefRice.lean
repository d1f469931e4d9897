/- The document's reader: Rice, Open. -/
import Derived.Test.YtppcccocnmhbgaaCat
import Derived.Test.YtppcccocnmhbgaaRefRead
namespace Go.Proofs.Ytppcccocnmhbgaa
open Go Go.RowKit
set_option maxRecDepth 100000
set_option linter.unusedSimpArgs false
set_option linter.unusedVariables false

set_option maxHeartbeats 3200000 in
theorem wrice (r q C most : Nat) (t : List Bool) (w : World) (h : RfAt w r (List.replicate q true ++ false :: t)) (hqm : q ≤ most) (hm : most < 9223372036854775808) (hC : C ≤ 32) (hCt : C ≤ t.length) (hfit : q * 2 ^ C < 18446744073709551616) :
    Calls Try.prog 56 #[.pointer (some ⟨r, 0, none⟩), .int .i64 (C : Int), .int .u64 (most : Int)] w fun e w' => e = .returned (.tuple #[.int .u64 ((q * 2 ^ C + valOf (t.take C) : Nat) : Int), .int .i64 0]) ∧ RfAt w' r (t.drop C) ∧ Keep (fun k => k = r) w w' := by
  have hVl : valOf (t.take C) < 2 ^ C := by
    have := valOf_lt (t.take C)
    rw [List.length_take, Nat.min_eq_left hCt] at this; exact this
  obtain ⟨V, hV0⟩ : ∃ V, valOf (t.take C) = V := ⟨_, rfl⟩
  have hV := Lib.hid hV0
  rw [hV0] at hVl ⊢
  clear hV0
  have hor := or_rice q C V hfit (by omega) hVl
  have hsh : (q : Int) * 2 ^ C < 18446744073709551616 := by
    have e : (q : Int) * 2 ^ C = ((q * 2 ^ C : Nat) : Int) := by rw [Int.natCast_mul, Int.natCast_pow]; rfl
    rw [e]; omega
  have hsh0 : (0 : Int) ≤ (q : Int) * 2 ^ C := Int.mul_nonneg (by omega) (Int.pow_nonneg (by decide))
  have hmin : min C 64 = C := Nat.min_eq_left (by omega)
  have H := Lib.hid h
  have d1 : decide ((C : Int) < 0) = false := decide_eq_false (by omega)
  have d2 : decide (32 < (C : Int)) = false := decide_eq_false (by omega)
  clear h
  go_enter Try.func56, Try.ntmps56
  go_wp2
  go_loopg [8] q (fun gh v wx => ∃ (k z : Nat), k ≤ q ∧ v = .int .u64 (k : Int) ∧ gh = z ∧ Hid (k + z = q ∧ RfAt wx r (List.replicate z true ++ false :: t) ∧ Keep (fun k => k = r) w wx))
  case atStart => exact ⟨0, q, by omega, rfl, rfl, by omega, H.out, Keep.refl _ _⟩
  case round =>
    obtain ⟨k, z, hkq, rfl, hg, HM⟩ := hrel
    have HGK := Lib.hid hg
    clear hg
    rcases z with _ | j
    · obtain ⟨e1, q1, q2⟩ := HM.out
      obtain rfl : k = q := by omega
      rw [List.replicate_zero, List.nil_append] at q1
      have PP := Lib.hid (wbit r false t wr q1)
      have PV := Lib.hid (fun w' h => wbits r t C w' h (by omega) hCt)
      have HQ := Lib.hid q2
      clear q1 q2 e1 HM
      go_wp2_with fail
      refine PP.out.mono ?_
      rintro e w1 ⟨rfl, h1, h2⟩
      have PB := Lib.hid (PV.out w1 h1)
      have H2 := Lib.hid h2
      clear h1 h2
      rw [hV.out] at PB
      go_wp2_with fail
      refine PB.out.mono ?_
      rintro e w2 ⟨rfl, h3, h4⟩
      have H3 := Lib.hid h3
      have H4 := Lib.hid h4
      clear h3 h4
      go_wp2
      go_ret2
      refine ⟨?_, H3.out, HQ.out.trans (H2.out.trans H4.out)⟩
      rw [show ((k * 2 ^ C + V : Nat) : Int) = (k : Int) * 2 ^ C + V from by simp]; rfl
    · obtain ⟨e1, q1, q2⟩ := HM.out
      rw [List.replicate_succ, List.cons_append] at q1
      have PP := Lib.hid (wbit r true _ wr q1)
      have hkm : decide ((most : Int) < (k : Int) + 1) = false := decide_eq_false (by omega)
      have hkw : IntKind.u64.wrap ((k : Int) + 1) = (k : Int) + 1 := IntWalk.u64_in _ (by omega)
      have HQ := Lib.hid (And.intro q2 e1)
      clear q1 q2 e1 HM
      go_wp2_with fail
      refine PP.out.mono ?_
      rintro e w1 ⟨rfl, h1, h2⟩
      have H1 := Lib.hid h1
      have H2 := Lib.hid h2
      clear h1 h2
      go_wp2
      go_roundg j
      case measure => rw [HGK.out]; omega
      case rel => exact ⟨k + 1, j, by have := HQ.out.2; omega, rfl, rfl, by have := HQ.out.2; omega, H1.out, HQ.out.1.trans H2.out⟩
set_option maxHeartbeats 3200000 in
theorem wriceF (r q C most : Nat) (T : List Bool) (w : World) (h : RfAt w r (List.replicate q true ++ T)) (hqm : q ≤ most) (hm : most < 9223372036854775808) (hC : C ≤ 32)
    (hf : T = [] ∨ (∃ t, T = false :: t ∧ t.length < C) ∨ (∃ t, T = true :: t ∧ q = most)) :
    Calls Try.prog 56 #[.pointer (some ⟨r, 0, none⟩), .int .i64 (C : Int), .int .u64 (most : Int)] w fun e w' => ∃ x : Int, (x = 50 ∨ x = 51) ∧ e = .returned (.tuple #[.int .u64 0, .int .i64 x]) ∧ Keep (fun k => k = r) w w' := by
  have H := Lib.hid h
  have HF := Lib.hid hf
  have d1 : decide ((C : Int) < 0) = false := decide_eq_false (by omega)
  have d2 : decide (32 < (C : Int)) = false := decide_eq_false (by omega)
  clear h hf
  go_enter Try.func56, Try.ntmps56
  go_wp2
  go_loopg [8] q (fun gh v wx => ∃ (k z : Nat), k ≤ q ∧ v = .int .u64 (k : Int) ∧ gh = z ∧ Hid (k + z = q ∧ RfAt wx r (List.replicate z true ++ T) ∧ Keep (fun k => k = r) w wx))
  case atStart => exact ⟨0, q, by omega, rfl, rfl, by omega, H.out, Keep.refl _ _⟩
  case round =>
    obtain ⟨k, z, hkq, rfl, hg, HM⟩ := hrel
    have HGK := Lib.hid hg
    clear hg
    rcases z with _ | j
    · obtain ⟨e1, q1, q2⟩ := HM.out
      obtain rfl : k = q := by omega
      rw [List.replicate_zero, List.nil_append] at q1
      have HQ := Lib.hid q2
      rcases HF.out with hT | ⟨t, hT, hCt⟩ | ⟨t, hT, hqm2⟩
      · rw [hT] at q1
        have PP := Lib.hid (wbit0 r wr q1)
        clear q1 q2 e1 HM hT
        go_wp2_with fail
        refine PP.out.mono ?_
        rintro e w1 ⟨rfl, h2⟩
        have H2 := Lib.hid h2
        clear h2
        go_wp2
        go_ret2
        exact ⟨50, .inl rfl, rfl, HQ.out.trans H2.out⟩
      · rw [hT] at q1
        have PP := Lib.hid (wbit r false t wr q1)
        have PV := Lib.hid (fun w' h => wbitsE r t C w' h (by omega) hCt)
        clear q1 q2 e1 HM hT
        go_wp2_with fail
        refine PP.out.mono ?_
        rintro e w1 ⟨rfl, h1, h2⟩
        have PB := Lib.hid (PV.out w1 h1)
        have H2 := Lib.hid h2
        clear h1 h2
        go_wp2_with fail
        refine PB.out.mono ?_
        rintro e w2 ⟨rfl, h4⟩
        have H4 := Lib.hid h4
        clear h4
        go_wp2
        go_ret2
        exact ⟨50, .inl rfl, rfl, HQ.out.trans (H2.out.trans H4.out)⟩
      · rw [hT] at q1
        have PP := Lib.hid (wbit r true t wr q1)
        have hkm : decide ((most : Int) < (k : Int) + 1) = true := decide_eq_true (by omega)
        have hkw : IntKind.u64.wrap ((k : Int) + 1) = (k : Int) + 1 := IntWalk.u64_in _ (by omega)
        clear q1 q2 e1 HM hT hqm2
        go_wp2_with fail
        refine PP.out.mono ?_
        rintro e w1 ⟨rfl, h1, h2⟩
        have H2 := Lib.hid h2
        clear h1 h2
        go_wp2
        go_ret2
        exact ⟨51, .inr rfl, rfl, HQ.out.trans H2.out⟩
    · obtain ⟨e1, q1, q2⟩ := HM.out
      rw [List.replicate_succ, List.cons_append] at q1
      have PP := Lib.hid (wbit r true _ wr q1)
      have hkm : decide ((most : Int) < (k : Int) + 1) = false := decide_eq_false (by omega)
      have hkw : IntKind.u64.wrap ((k : Int) + 1) = (k : Int) + 1 := IntWalk.u64_in _ (by omega)
      have HQ := Lib.hid (And.intro q2 e1)
      clear q1 q2 e1 HM
      go_wp2_with fail
      refine PP.out.mono ?_
      rintro e w1 ⟨rfl, h1, h2⟩
      have H1 := Lib.hid h1
      have H2 := Lib.hid h2
      clear h1 h2
      go_wp2
      go_roundg j
      case measure => rw [HGK.out]; omega
      case rel => exact ⟨k + 1, j, by have := HQ.out.2; omega, rfl, rfl, by have := HQ.out.2; omega, H1.out, HQ.out.1.trans H2.out⟩
theorem Row.fresh' (w : World) (e : TypeId) : Row (w.alloc (.cells #[] e)) e (.slice (some ⟨w.heap.size, 0, none⟩) 0 0) [] (some w.heap.size) :=
  .inr ⟨w.heap.size, 0, #[], rfl, rfl, Blk.new _ _ _, Nat.le_refl _, Nat.le_refl _, Nat.zero_le _, rfl⟩
set_option maxHeartbeats 1600000 in
theorem wopen (q : Option Addr) (c : Nat) (xs : List Int) (w : World) (h : Lib.BytesIn w q xs.length xs) (hr : ∀ x ∈ xs, 0 ≤ x ∧ x < 256) (hl : xs.length ≤ 140737488355328) :
    Calls Try.prog 55 #[.slice q xs.length c] w fun e w' => ∃ r, e = .returned (.pointer (some ⟨r, 0, none⟩)) ∧ RfAt w' r (unpack xs) ∧ w.heap.size ≤ r ∧ Below w.heap.size w w' := by
  obtain ⟨i0, hi, hz0, hz1, hz2⟩ := info_parts u8info
  have K0 : Keep (fun _ => False) w (w.alloc (.cells #[] 5)) := (Keep.refl _ w).alloc _
  obtain ⟨v1, w1, o1, run1, R1, ho1, k1⟩ := row_appendL (P := Try.prog) 26 26 i0 (.int .u8 0) Try.underlying26 hi hz0 hz1 hz2 rfl (Row.fresh' w 5) (c := c) (bytes_keep h K0 (fun _ _ _ h => h)) (by simpa using hl)
  rw [List.nil_append] at R1
  obtain ⟨p1, c1, rfl, b1, _, _, hq1⟩ := R1.form
  obtain ⟨g1, B1⟩ := own_step (w0 := w) (G := w.heap.size) rfl (K0.below (Nat.le_refl _) (fun _ h => h.elim)) (fun g hg => by cases hg; exact Nat.le_refl _) ho1 k1
  have hne : ∀ a, p1 = some a → a.block < w1.heap.size := fun a ha => by
    rcases hq1 with ⟨rfl, _⟩ | ⟨g, _, rfl, hg⟩
    · cases ha
    · cases ha; exact hg
  have HH := Lib.hid (And.intro b1 (And.intro hne B1))
  have HR := Lib.hid hr
  clear R1 ho1 k1 K0 b1 hq1 g1 B1 hne h hr hi hz0 hz1 hz2
  go_enter Try.func55, Try.ntmps55
  go_wp2_with (at_builtin; refine wpl_append rfl _ _ 26 rfl rfl rfl run1 ?_)
  go_ret
  refine ⟨_, rfl, ⟨p1, c1, 0, xs, Blk.new _ _ _, bytes_keep HH.out.1 ((Keep.refl (fun _ => False) w1).alloc _) (fun _ _ _ h => h), HH.out.2.1, HR.out, hl, Nat.zero_le _, rfl⟩, HH.out.2.2.size, HH.out.2.2.alloc HH.out.2.2.size _⟩
end Go.Proofs.Ytppcccocnmhbgaa
