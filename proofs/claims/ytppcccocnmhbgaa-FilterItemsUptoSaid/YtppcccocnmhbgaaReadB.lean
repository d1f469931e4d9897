/- The walks of layer 11: the reader's Bit, Bits, Open. -/
import Derived.Test.YtppcccocnmhbgaaRead
namespace Go.Proofs.Ytppcccocnmhbgaa
open Go Go.RowKit
set_option maxRecDepth 100000
set_option linter.unusedSimpArgs false

theorem Keep.own {r : Nat} {a b c : World} (h : Keep (fun k => k = r) a b) (k : Keep (fun k => k = r) b c) : Keep (fun k => k = r) a c := h.trans k
theorem vbit (r : Nat) (b : Bool) (s : List Bool) (w : World) (h : RdAt w r (b :: s)) :
    Calls Try.prog 83 #[.pointer (some ⟨r, 0, none⟩)] w fun e w' => e = .returned (.tuple #[.bool b, .int .i64 0]) ∧ RdAt w' r s ∧ Keep (fun k => k = r) w w' := by
  have PN := Lib.hid (vnone r w (by obtain ⟨q, c, t, Z, h1, _⟩ := h; exact h1.cell 0))
  have PL := Lib.hid (vleft r (b :: s) w h)
  have PX := Lib.hid (vnext r b s w.drew (h.below (Below.refl _ _).drew))
  have hl := Lib.hid (show (((b :: s).length : Int) == 0) = false from beq_false_of_ne (by simp; omega))
  have hb := tb_eq b
  clear h
  go_enter Try.func83, Try.ntmps83
  go_wp2_with fail
  refine PN.out.mono ?_
  rintro e w1 ⟨rfl, rfl⟩
  go_wp2_with fail
  refine PL.out.mono ?_
  rintro e w1 ⟨rfl, rfl⟩
  have hl := hl.out
  generalize ((b :: s).length : Int) = L at *
  go_wp2_with fail
  refine PX.out.mono ?_
  rintro e w1 ⟨rfl, hs, hk⟩
  have HS := Lib.hid hs
  have HK := Lib.hid hk
  clear hs hk
  go_wp2
  go_ret2
  exact ⟨rfl, HS.out, ((Keep.refl (fun k => k = r) w).drew).trans HK.out⟩
theorem or_bit1 (V : Nat) (b : Bool) (h : V < 9223372036854775808) : bits .or .u64 ((V : Int) * 2) (b.toNat : Int) = ((2 * V + b.toNat : Nat) : Int) := by
  have hb : b.toNat ≤ 1 := Bool.toNat_le b
  rw [show (V : Int) * 2 = ((2 * V : Nat) : Int) from by omega, or_u64 _ _ (by omega) (by omega)]
  congr 1
  have := Nat.two_pow_add_eq_or_of_lt (i := 1) (b := b.toNat) (by omega) V
  rw [Nat.pow_one] at this
  exact this.symm
theorem drop_cons (s : List Bool) (k : Nat) (h : k < s.length) : s.drop k = s.getD k false :: s.drop (k + 1) := by
  rw [List.drop_eq_getElem_cons h]; simp [List.getD, h]
theorem take_snoc (s : List Bool) (k : Nat) (h : k < s.length) : s.take (k + 1) = s.take k ++ [s.getD k false] := by
  rw [List.take_add_one, List.getElem?_eq_getElem h]; simp [List.getD, h]
set_option maxHeartbeats 1600000 in
theorem vbits (r : Nat) (s : List Bool) (C : Nat) (w : World) (h : RdAt w r s) (hC : C ≤ 64) (hs : C ≤ s.length) :
    Calls Try.prog 52 #[.pointer (some ⟨r, 0, none⟩), .int .i64 (C : Int)] w fun e w' => e = .returned (.tuple #[.int .u64 (valOf (s.take C) : Int), .int .i64 0]) ∧ RdAt w' r (s.drop C) ∧ Keep (fun k => k = r) w w' := by
  have hlen := h.len
  have PN := Lib.hid (vnone r w (by obtain ⟨q, c, t, Z, h1, _⟩ := h; exact h1.cell 0))
  have PL := Lib.hid (vleft r s w h)
  have H := Lib.hid (h.below (Below.refl _ _).drew)
  have hl : decide ((s.length : Int) < (C : Int)) = false := decide_eq_false (by omega)
  have hl2 : decide (s.length < C) = false := decide_eq_false (by omega)
  have hl3 : ¬ s.length < C := by omega
  have d1 : decide ((C : Int) < 0) = false := decide_eq_false (by omega)
  have d2 : decide (64 < (C : Int)) = false := decide_eq_false (by omega)
  have HSL := Lib.hid hs
  clear h
  go_enter Try.func52, Try.ntmps52
  go_wp2_with fail
  refine PN.out.mono ?_
  rintro e w1 ⟨rfl, rfl⟩
  go_wp2_with fail
  refine PL.out.mono ?_
  rintro e w1 ⟨rfl, rfl⟩
  go_wp2
  go_loopg [6, 23] C (fun g n i wx => ∃ (k V : Nat), k ≤ C ∧ n = .int .u64 (V : Int) ∧ i = .int .i64 (k : Int) ∧ g = C - k ∧ Hid (V = valOf (s.take k) ∧ RdAt wx r (s.drop k) ∧ Keep (fun k => k = r) w wx))
  case atStart => exact ⟨0, 0, by omega, rfl, rfl, rfl, by simp [valOf], H.out, (Keep.refl _ _).drew⟩
  case round =>
    obtain ⟨k, V, hk, rfl, rfl, hg, HM⟩ := hrel
    by_cases hlt : k < C
    · have hks : k < s.length := Nat.lt_of_lt_of_le hlt HSL.out
      have hV : V < 9223372036854775808 := by
        have h1 := valOf_lt (s.take k)
        rw [← HM.out.1, List.length_take] at h1
        have h2 : 2 ^ (min k s.length) ≤ 2 ^ 63 := Nat.pow_le_pow_right (by decide) (by omega)
        omega
      have hR := HM.out.2.1
      rw [drop_cons s k hks] at hR
      have hT := Lib.hid (take_snoc s k hks)
      generalize s.getD k false = bk at *
      have hob := or_bit1 V bk hV
      have PX := Lib.hid (vnext r _ _ wr hR)
      have HG := Lib.hid (And.intro hg hks)
      clear hR hg hks
      go_wp2_with fail
      refine PX.out.mono ?_
      rintro e w1 ⟨rfl, h1, h2⟩
      have H1 := Lib.hid h1
      have H2 := Lib.hid h2
      clear h1 h2
      go_wp2
      go_roundg (C - (k + 1))
      case measure => rw [HG.out.1]; omega
      case rel => exact ⟨k + 1, 2 * V + bk.toNat, by omega, by first | rfl | (rw [hob]), rfl, rfl, by rw [hT.out, valOf_snoc, HM.out.1], H1.out, HM.out.2.2.trans H2.out⟩
    · obtain rfl : k = C := by omega
      go_wp2
      go_ret2
      exact ⟨by rw [HM.out.1]; rfl, HM.out.2.1, HM.out.2.2⟩
theorem vopen (q : Option Addr) (c : Nat) (o : Option Nat) (xs : List Int) (w : World) (h : Row w 5 (.slice q xs.length c) xs o) (hr : ∀ x ∈ xs, 0 ≤ x ∧ x < 256) (hl : xs.length ≤ 140737488355328) :
    Calls Try.prog 49 #[.slice q xs.length c] w fun e w' => ∃ r, e = .returned (.pointer (some ⟨r, 0, none⟩)) ∧ RdAt w' r (unpack xs) ∧ w.heap.size ≤ r ∧ Below w.heap.size w w' := by
  obtain ⟨q', c', e, hb, hle, hm, hq⟩ := h.form
  injection e with e1 e2 e3
  subst e1 e3
  clear e2
  rcases hq with ⟨rfl, rfl, rfl, _⟩ | ⟨g, rfl, rfl, hg⟩
  · have Q := Lib.hid (Try.bytes_Clone_nil 0 0 w)
    go_enter Try.func49, Try.ntmps49
    go_wp2_with fail
    refine Q.out.mono ?_
    rintro e w1 ⟨rfl, rfl⟩
    go_wp2
    go_ret
    exact ⟨_, rfl, ⟨none, 0, 0, ([] : List Int), Blk.new _ _ _, Lib.BytesIn.nil _ _ _, fun _ h => (by cases h), fun _ h => (by cases h), Nat.le_refl _, ⟨by decide, by decide⟩, by decide, fun _ => rfl, rfl⟩, Nat.le_refl _, (Below.refl _ _).alloc (Nat.le_refl _) _⟩
  · have Q := Lib.hid (Try.bytes_Clone_at ⟨g, 0, none⟩ xs.length c xs w rfl (by omega) (fun i hi => by
      obtain ⟨b, o2, e1, hc⟩ := hb.at (by omega)
      simp at e1; obtain ⟨rfl, rfl⟩ := e1
      rw [Addr.add_lit]; exact hc i hi))
    clear h hb
    go_enter Try.func49, Try.ntmps49
    go_wp2_with fail
    refine Q.out.mono ?_
    rintro e w1 ⟨v', rfl, hown, hne, hbel⟩
    obtain ⟨o', r1, r2, r3⟩ := Row.of_owns hown
    obtain ⟨q', c', rfl, f1, f2, f3, f4⟩ := r1.form
    have F := Lib.hid (And.intro f1 (And.intro f2 (And.intro f3 (And.intro f4 (And.intro r2 hbel)))))
    clear f1 f2 f3 f4 r1 r2 r3 hown hbel hne
    go_wp2
    go_ret
    obtain ⟨f1, f2, f3, f4, r2, hbel⟩ := F.out
    refine ⟨w1.heap.size, rfl, ⟨q', c', 0, xs, Blk.new _ _ _, bytes_keep f1 ((Keep.refl (fun _ => False) w1).alloc _) (fun _ _ _ h => h), fun a ha => ?_, hr, f2, ⟨f3, by omega⟩, by decide, fun _ => rfl, rfl⟩, hbel.size, hbel.alloc hbel.size _⟩
    rcases f4 with ⟨rfl, _⟩ | ⟨g', h1, h2, h3⟩
    · cases ha
    · rw [h2] at ha; cases ha
      show g' < _
      omega
end Go.Proofs.Ytppcccocnmhbgaa
