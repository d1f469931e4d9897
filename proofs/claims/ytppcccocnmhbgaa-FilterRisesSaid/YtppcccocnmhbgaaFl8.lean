import Derived.Test.YtppcccocnmhbgaaFl7
import Derived.Deep.LoopGhost
section
/- The walks of layer 11: the reader. -/
namespace Go.Proofs.Ytppcccocnmhbgaa
open Go Go.RowKit
set_option maxRecDepth 100000
set_option linter.unusedSimpArgs false

/-- a reader that a call made, in memory, and the bits that are left -/
def RdAt (w : World) (r : Nat) (s : List Bool) : Prop :=
  ∃ (q : Option Addr) (c t : Nat) (Z : List Int), Blk w r #[.bool true, .slice q Z.length c, .int .i64 (t : Int)] 119 ∧ Lib.BytesIn w q Z.length Z ∧ (∀ a, q = some a → a.block < r) ∧ (∀ x ∈ Z, 0 ≤ x ∧ x < 256) ∧ Z.length ≤ c ∧ (c ≤ maxLen ∧ Z.length ≤ 140737488355328) ∧ t < 8 ∧ (Z = [] → t = 0) ∧ s = (unpack Z).drop t
theorem RdAt.keep {X : Nat → Prop} {w w' : World} {r : Nat} {s : List Bool} (h : RdAt w r s) (hk : Keep X w w') (hn : ∀ k, k < w.heap.size → ¬ X k) : RdAt w' r s := by
  obtain ⟨q, c, t, Z, h1, h2, h3⟩ := h
  exact ⟨q, c, t, Z, hk.blk h1 (hn r h1.lt), bytes_keep h2 hk (fun h0 a ha => hn _ (bytes_lt h2 h0 a ha)), h3⟩
theorem RdAt.up {X : Nat → Prop} {w w' : World} {r : Nat} {s : List Bool} (h : RdAt w r s) (hk : Keep X w w') (hn : ∀ k, k ≤ r → ¬ X k) : RdAt w' r s := by
  obtain ⟨q, c, t, Z, h1, h2, h3, h4⟩ := h
  exact ⟨q, c, t, Z, hk.blk h1 (hn r (Nat.le_refl _)), bytes_keep h2 hk (fun h0 a ha => hn _ (Nat.le_of_lt (h3 a ha))), h3, h4⟩
theorem RdAt.below {w w' : World} {r : Nat} {s : List Bool} (h : RdAt w r s) (hk : Below w.heap.size w w') : RdAt w' r s :=
  h.keep (X := fun _ => False) (Keep.of_below hk) (fun _ _ h => h)
theorem RdAt.lt {w : World} {r : Nat} {s : List Bool} (h : RdAt w r s) : r < w.heap.size := by
  obtain ⟨q, c, t, Z, h1, _⟩ := h
  exact h1.lt
theorem RdAt.len {w : World} {r : Nat} {s : List Bool} (h : RdAt w r s) : s.length ≤ 1125899906842624 := by
  obtain ⟨q, c, t, Z, _, _, _, _, h1, h2, _, _, rfl⟩ := h
  rw [List.length_drop, unpack_length]; omega
theorem vnone (p : Nat) (w : World) (h : w.cell? ⟨p, 0, none⟩ = some (.bool true)) : Calls Try.prog 82 #[.pointer (some ⟨p, 0, none⟩)] w fun e w' => e = .returned (.bool false) ∧ w = w' := by
  go_enter Try.func82, Try.ntmps82
  go_wp2
  go_ret
  exact ⟨rfl, rfl⟩
theorem zb_val (x : Int) (t : Nat) (h0 : 0 ≤ x) (h1 : x < 256) : bits .and .u8 (x / 2 ^ (7 - t)) 1 = ((zb x t).toNat : Int) := by
  have e : x / 2 ^ (7 - t) = ((x.toNat / 2 ^ (7 - t) : Nat) : Int) := by
    rw [Int.natCast_ediv, Int.natCast_pow, Int.toNat_of_nonneg h0]; rfl
  have hl : x.toNat / 2 ^ (7 - t) < 256 := Nat.lt_of_le_of_lt (Nat.div_le_self _ _) (by omega)
  rw [e]
  have h2 := u8_and_nat (x.toNat / 2 ^ (7 - t)) 1 hl (by decide)
  rw [Nat.and_one_is_mod] at h2
  rw [show (1 : Int) = ((1 : Nat) : Int) from rfl, h2]
  unfold zb
  rw [Nat.toNat_testBit]
theorem vleft (r : Nat) (s : List Bool) (w : World) (h : RdAt w r s) :
    Calls Try.prog 51 #[.pointer (some ⟨r, 0, none⟩)] w fun e w' => e = .returned (.int .i64 (s.length : Int)) ∧ w' = w.drew := by
  obtain ⟨q, c, t, Z, h1, h2, h3, h4, h5, h6, h7, h8, rfl⟩ := h
  have PN := Lib.hid (vnone r w (h1.cell 0))
  have cc := h1.cell
  have hl : (((unpack Z).drop t).length : Int) = 8 * Z.length - t := by
    rw [List.length_drop, unpack_length]
    rcases Z with _ | ⟨x, R⟩
    · have := h8 rfl; subst this; rfl
    · simp; omega
  have HL := Lib.hid hl
  clear h1 h2 h3 h4 h8 hl
  go_enter Try.func51, Try.ntmps51
  go_wp2_with fail
  refine PN.out.mono ?_
  rintro e w1 ⟨rfl, rfl⟩
  go_wp2
  go_region
  go_wp2
  go_ret
  exact ⟨by rw [HL.out]; rfl, rfl⟩
set_option maxHeartbeats 1600000 in
theorem vnext (r : Nat) (b : Bool) (s : List Bool) (w : World) (h : RdAt w r (b :: s)) :
    Calls Try.prog 84 #[.pointer (some ⟨r, 0, none⟩)] w fun e w' => e = .returned (.int .u64 (b.toNat : Int)) ∧ RdAt w' r s ∧ Keep (fun k => k = r) w w' := by
  obtain ⟨q, c, t, Z, h1, h2, h3, h4, h5, h6, h7, h8, hs⟩ := h
  rcases Z with _ | ⟨x, R⟩
  · have := h8 rfl; subst this; cases hs
  · obtain ⟨qb, qo, rfl, hc⟩ := h2.at (by simp)
    have hx := h4 x (List.mem_cons_self ..)
    rw [unpack_drop x R t h7] at hs
    injection hs with hb hs
    subst hb
    have c0 := hc 0 (by simp)
    rw [List.getD_cons_zero, Nat.add_zero] at c0
    have n0 : qb < r := h3 _ rfl
    have n1 : qb ≠ r := Nat.ne_of_lt n0
    have n2 : r ≠ qb := fun e => n1 e.symm
    have cc := h1.cell
    have ff := h1.free
    have hz := zb_val x t hx.1 hx.2
    have hzr : (0 : Int) ≤ ((zb x t).toNat : Int) ∧ ((zb x t).toNat : Int) ≤ 1 := by have := Bool.toNat_le (zb x t); omega
    generalize zb x t = b at *
    have H1 := Lib.hid h1
    have H2 := Lib.hid h2
    have H4 := Lib.hid h4
    have HC := Lib.hid hc
    have HS := Lib.hid hs
    have H56 := Lib.hid (And.intro h5 h6)
    have hcm := h6.1
    have hlen : ((x :: R).length : Int) = (R.length : Int) + 1 := by simp
    clear h1 h2 h3 h4 h8 hc hs h5 h6 hx
    by_cases ht : t = 7
    · subst ht
      have hz7 : bits .and .u8 x 1 = (b.toNat : Int) := by rw [← hz]; simp
      by_cases hc1 : c = 1
      · go_enter Try.func84, Try.ntmps84
        go_wp2
        go_region
        go_wp2
        go_ret
        have K := (((Keep.refl (fun k => k = r) w).set (p := ⟨r, 2, none⟩) (.inl rfl) (.int .i64 8)).set (p := ⟨r, 1, none⟩) (.inl rfl) (.slice (some ⟨qb, qo, none⟩) R.length 0)).set (p := ⟨r, 2, none⟩) (.inl rfl) (.int .i64 0)
        have hR : R = [] := by have := H56.out.1; simp [hc1] at this; exact this
        subst hR
        exact ⟨rfl, ⟨some ⟨qb, qo, none⟩, 0, 0, [], (((H1.out.set 2 _).set 1 _).set 2 _).drew, Lib.BytesIn.nil _ _ _, fun a ha => by cases ha; exact n0, fun x hx => by (cases hx), Nat.le_refl _, by decide, by omega, fun _ => rfl, HS.out⟩, K.drew⟩
      · go_enter Try.func84, Try.ntmps84
        go_wp2
        go_region
        go_wp2
        go_ret
        have K := (((Keep.refl (fun k => k = r) w).set (p := ⟨r, 2, none⟩) (.inl rfl) (.int .i64 8)).set (p := ⟨r, 1, none⟩) (.inl rfl) (.slice (some ⟨qb, qo + 1, none⟩) R.length (c - 1))).set (p := ⟨r, 2, none⟩) (.inl rfl) (.int .i64 0)
        have hb2 : Lib.BytesIn w (some ⟨qb, qo + 1, none⟩) R.length R := fun h0 => ⟨qb, qo + 1, rfl, fun i hi => by
          have := HC.out (i + 1) (by simp; omega)
          rw [List.getD_cons_succ] at this
          rw [Nat.add_assoc, Nat.add_comm 1 i]; exact this⟩
        have h5 := H56.out.1
        have h6 := H56.out.2
        simp at h5 h6
        exact ⟨rfl, ⟨some ⟨qb, qo + 1, none⟩, c - 1, 0, R, (((H1.out.set 2 _).set 1 _).set 2 _).drew, bytes_keep hb2 K.drew (fun _ a ha e => by cases ha; exact n1 e), fun a ha => by cases ha; exact n0, fun y hy => H4.out y (List.mem_cons_of_mem _ hy), by omega, by omega, by omega, fun _ => rfl, HS.out⟩, K.drew⟩
    · have ht6 : t ≤ 6 := by omega
      have d8 : ((t : Int) + 1 == 8) = false := beq_false_of_ne (by omega)
      go_enter Try.func84, Try.ntmps84
      go_wp2
      go_region
      go_wp2
      go_ret
      have K := ((Keep.refl (fun k => k = r) w).set (p := ⟨r, 2, none⟩) (.inl rfl) (.int .i64 ((t : Int) + 1))).drew
      exact ⟨rfl, ⟨some ⟨qb, qo, none⟩, c, t + 1, x :: R, (H1.out.set 2 _).drew, bytes_keep H2.out K (fun _ a ha e => by cases ha; exact n1 e), fun a ha => by cases ha; exact n0, H4.out, H56.out.1, H56.out.2, by omega, fun h => absurd h (by simp), HS.out⟩, K⟩
end Go.Proofs.Ytppcccocnmhbgaa
end

section
/- The walks of layer 11: the reader's Bit, Bits, Open. -/
namespace Go.Proofs.Ytppcccocnmhbgaa
open Go Go.RowKit
set_option maxRecDepth 100000
set_option linter.unusedSimpArgs false

theorem Keep.own {r : Nat} {a b c : World} (h : Keep (fun k => k = r) a b) (k : Keep (fun k => k = r) b c) : Keep (fun k => k = r) a c := h.trans k
theorem vbit (r : Nat) (b : Bool) (s : List Bool) (w : World) (h : RdAt w r (b :: s)) :
    Calls Try.prog 83 #[.pointer (some ⟨r, 0, none⟩)] w fun e w' => e = .returned (.tuple #[.bool b, .int .i64 0]) ∧ RdAt w' r s ∧ Keep (fun k => k = r) w w' := by
  have PN := Lib.hid (vnone r w (by obtain ⟨q, c, t, Z, h1, _⟩ := h; exact h1.cell 0))
  have PL := Lib.hid (vleft r (b :: s) w h)
  have PX := Lib.hid (vnext r b s w.drew (h.below (Below.refl _ _).drew))
  have hl := Lib.hid (show (((b :: s).length : Int) == 0) = false from beq_false_of_ne (by simp; omega))
  have hb := tb_eq b
  clear h
  go_enter Try.func83, Try.ntmps83
  go_wp2_with fail
  refine PN.out.mono ?_
  rintro e w1 ⟨rfl, rfl⟩
  go_wp2_with fail
  refine PL.out.mono ?_
  rintro e w1 ⟨rfl, rfl⟩
  have hl := hl.out
  generalize ((b :: s).length : Int) = L at *
  go_wp2_with fail
  refine PX.out.mono ?_
  rintro e w1 ⟨rfl, hs, hk⟩
  have HS := Lib.hid hs
  have HK := Lib.hid hk
  clear hs hk
  go_wp2
  go_ret2
  exact ⟨rfl, HS.out, ((Keep.refl (fun k => k = r) w).drew).trans HK.out⟩
theorem or_bit1 (V : Nat) (b : Bool) (h : V < 9223372036854775808) : bits .or .u64 ((V : Int) * 2) (b.toNat : Int) = ((2 * V + b.toNat : Nat) : Int) := by
  have hb : b.toNat ≤ 1 := Bool.toNat_le b
  rw [show (V : Int) * 2 = ((2 * V : Nat) : Int) from by omega, or_u64 _ _ (by omega) (by omega)]
  congr 1
  have := Nat.two_pow_add_eq_or_of_lt (i := 1) (b := b.toNat) (by omega) V
  rw [Nat.pow_one] at this
  exact this.symm
theorem drop_cons (s : List Bool) (k : Nat) (h : k < s.length) : s.drop k = s.getD k false :: s.drop (k + 1) := by
  rw [List.drop_eq_getElem_cons h]; simp [List.getD, h]
theorem take_snoc (s : List Bool) (k : Nat) (h : k < s.length) : s.take (k + 1) = s.take k ++ [s.getD k false] := by
  rw [List.take_add_one, List.getElem?_eq_getElem h]; simp [List.getD, h]
set_option maxHeartbeats 1600000 in
theorem vbits (r : Nat) (s : List Bool) (C : Nat) (w : World) (h : RdAt w r s) (hC : C ≤ 64) (hs : C ≤ s.length) :
    Calls Try.prog 52 #[.pointer (some ⟨r, 0, none⟩), .int .i64 (C : Int)] w fun e w' => e = .returned (.tuple #[.int .u64 (valOf (s.take C) : Int), .int .i64 0]) ∧ RdAt w' r (s.drop C) ∧ Keep (fun k => k = r) w w' := by
  have hlen := h.len
  have PN := Lib.hid (vnone r w (by obtain ⟨q, c, t, Z, h1, _⟩ := h; exact h1.cell 0))
  have PL := Lib.hid (vleft r s w h)
  have H := Lib.hid (h.below (Below.refl _ _).drew)
  have hl : decide ((s.length : Int) < (C : Int)) = false := decide_eq_false (by omega)
  have hl2 : decide (s.length < C) = false := decide_eq_false (by omega)
  have hl3 : ¬ s.length < C := by omega
  have d1 : decide ((C : Int) < 0) = false := decide_eq_false (by omega)
  have d2 : decide (64 < (C : Int)) = false := decide_eq_false (by omega)
  have HSL := Lib.hid hs
  clear h
  go_enter Try.func52, Try.ntmps52
  go_wp2_with fail
  refine PN.out.mono ?_
  rintro e w1 ⟨rfl, rfl⟩
  go_wp2_with fail
  refine PL.out.mono ?_
  rintro e w1 ⟨rfl, rfl⟩
  go_wp2
  go_loopg [6, 23] C (fun g n i wx => ∃ (k V : Nat), k ≤ C ∧ n = .int .u64 (V : Int) ∧ i = .int .i64 (k : Int) ∧ g = C - k ∧ Hid (V = valOf (s.take k) ∧ RdAt wx r (s.drop k) ∧ Keep (fun k => k = r) w wx))
  case atStart => exact ⟨0, 0, by omega, rfl, rfl, rfl, by simp [valOf], H.out, (Keep.refl _ _).drew⟩
  case round =>
    obtain ⟨k, V, hk, rfl, rfl, hg, HM⟩ := hrel
    by_cases hlt : k < C
    · have hks : k < s.length := Nat.lt_of_lt_of_le hlt HSL.out
      have hV : V < 9223372036854775808 := by
        have h1 := valOf_lt (s.take k)
        rw [← HM.out.1, List.length_take] at h1
        have h2 : 2 ^ (min k s.length) ≤ 2 ^ 63 := Nat.pow_le_pow_right (by decide) (by omega)
        omega
      have hR := HM.out.2.1
      rw [drop_cons s k hks] at hR
      have hT := Lib.hid (take_snoc s k hks)
      generalize s.getD k false = bk at *
      have hob := or_bit1 V bk hV
      have PX := Lib.hid (vnext r _ _ wr hR)
      have HG := Lib.hid (And.intro hg hks)
      clear hR hg hks
      go_wp2_with fail
      refine PX.out.mono ?_
      rintro e w1 ⟨rfl, h1, h2⟩
      have H1 := Lib.hid h1
      have H2 := Lib.hid h2
      clear h1 h2
      go_wp2
      go_roundg (C - (k + 1))
      case measure => rw [HG.out.1]; omega
      case rel => exact ⟨k + 1, 2 * V + bk.toNat, by omega, by first | rfl | (rw [hob]), rfl, rfl, by rw [hT.out, valOf_snoc, HM.out.1], H1.out, HM.out.2.2.trans H2.out⟩
    · obtain rfl : k = C := by omega
      go_wp2
      go_ret2
      exact ⟨by rw [HM.out.1]; rfl, HM.out.2.1, HM.out.2.2⟩
theorem vopen (q : Option Addr) (c : Nat) (o : Option Nat) (xs : List Int) (w : World) (h : Row w 5 (.slice q xs.length c) xs o) (hr : ∀ x ∈ xs, 0 ≤ x ∧ x < 256) (hl : xs.length ≤ 140737488355328) :
    Calls Try.prog 49 #[.slice q xs.length c] w fun e w' => ∃ r, e = .returned (.pointer (some ⟨r, 0, none⟩)) ∧ RdAt w' r (unpack xs) ∧ w.heap.size ≤ r ∧ Below w.heap.size w w' := by
  obtain ⟨q', c', e, hb, hle, hm, hq⟩ := h.form
  injection e with e1 e2 e3
  subst e1 e3
  clear e2
  rcases hq with ⟨rfl, rfl, rfl, _⟩ | ⟨g, rfl, rfl, hg⟩
  · have Q := Lib.hid (Try.bytes_Clone_nil 0 0 w)
    go_enter Try.func49, Try.ntmps49
    go_wp2_with fail
    refine Q.out.mono ?_
    rintro e w1 ⟨rfl, rfl⟩
    go_wp2
    go_ret
    exact ⟨_, rfl, ⟨none, 0, 0, ([] : List Int), Blk.new _ _ _, Lib.BytesIn.nil _ _ _, fun _ h => (by cases h), fun _ h => (by cases h), Nat.le_refl _, ⟨by decide, by decide⟩, by decide, fun _ => rfl, rfl⟩, Nat.le_refl _, (Below.refl _ _).alloc (Nat.le_refl _) _⟩
  · have Q := Lib.hid (Try.bytes_Clone_at ⟨g, 0, none⟩ xs.length c xs w rfl (by omega) (fun i hi => by
      obtain ⟨b, o2, e1, hc⟩ := hb.at (by omega)
      simp at e1; obtain ⟨rfl, rfl⟩ := e1
      rw [Addr.add_lit]; exact hc i hi))
    clear h hb
    go_enter Try.func49, Try.ntmps49
    go_wp2_with fail
    refine Q.out.mono ?_
    rintro e w1 ⟨v', rfl, hown, hne, hbel⟩
    obtain ⟨o', r1, r2, r3⟩ := Row.of_owns hown
    obtain ⟨q', c', rfl, f1, f2, f3, f4⟩ := r1.form
    have F := Lib.hid (And.intro f1 (And.intro f2 (And.intro f3 (And.intro f4 (And.intro r2 hbel)))))
    clear f1 f2 f3 f4 r1 r2 r3 hown hbel hne
    go_wp2
    go_ret
    obtain ⟨f1, f2, f3, f4, r2, hbel⟩ := F.out
    refine ⟨w1.heap.size, rfl, ⟨q', c', 0, xs, Blk.new _ _ _, bytes_keep f1 ((Keep.refl (fun _ => False) w1).alloc _) (fun _ _ _ h => h), fun a ha => ?_, hr, f2, ⟨f3, by omega⟩, by decide, fun _ => rfl, rfl⟩, hbel.size, hbel.alloc hbel.size _⟩
    rcases f4 with ⟨rfl, _⟩ | ⟨g', h1, h2, h3⟩
    · cases ha
    · rw [h2] at ha; cases ha
      show g' < _
      omega
end Go.Proofs.Ytppcccocnmhbgaa
end

section
/- The walk of the reader's Rice: a loop by goto. -/
namespace Go.Proofs.Ytppcccocnmhbgaa
open Go Go.RowKit
set_option maxRecDepth 100000
set_option linter.unusedSimpArgs false

theorem or_rice (q C V : Nat) (hq : q * 2 ^ C < 18446744073709551616) (hC : C ≤ 63) (hV : V < 2 ^ C) : bits .or .u64 ((q : Int) * 2 ^ C) (V : Int) = ((q * 2 ^ C + V : Nat) : Int) := by
  have e : (q : Int) * 2 ^ C = ((q * 2 ^ C : Nat) : Int) := by rw [Int.natCast_mul, Int.natCast_pow]; rfl
  have hV2 : V < 18446744073709551616 := by
    have : 2 ^ C ≤ 2 ^ 63 := Nat.pow_le_pow_right (by decide) hC
    omega
  rw [e, or_u64 _ _ hq hV2]
  congr 1
  rw [Nat.mul_comm q]
  exact (Nat.two_pow_add_eq_or_of_lt hV q).symm
set_option maxRecDepth 100000 in
set_option maxHeartbeats 3200000 in
theorem vrice (r q C most : Nat) (t : List Bool) (w : World) (h : RdAt w r (List.replicate q true ++ false :: t)) (hqm : q ≤ most) (hm : most < 18446744073709551616) (hC : C ≤ 32) (hCt : C ≤ t.length) (hfit : q * 2 ^ C < 18446744073709551616) :
    Calls Try.prog 50 #[.pointer (some ⟨r, 0, none⟩), .int .i64 (C : Int), .int .u64 (most : Int)] w fun e w' => e = .returned (.tuple #[.int .u64 ((q * 2 ^ C + valOf (t.take C) : Nat) : Int), .int .i64 0]) ∧ RdAt w' r (t.drop C) ∧ Keep (fun k => k = r) w w' := by
  have PN := Lib.hid (vnone r w (by obtain ⟨q, c, t, Z, h1, _⟩ := h; exact h1.cell 0))
  have hVl : valOf (t.take C) < 2 ^ C := by
    have := valOf_lt (t.take C)
    rw [List.length_take, Nat.min_eq_left hCt] at this; exact this
  obtain ⟨V, hV0⟩ : ∃ V, valOf (t.take C) = V := ⟨_, rfl⟩
  have hV := Lib.hid hV0
  rw [hV0] at hVl ⊢
  clear hV0
  have hor := or_rice q C V hfit (by omega) hVl
  have hsh : (q : Int) * 2 ^ C < 18446744073709551616 := by
    have e : (q : Int) * 2 ^ C = ((q * 2 ^ C : Nat) : Int) := by rw [Int.natCast_mul, Int.natCast_pow]; rfl
    rw [e]; omega
  have hsh0 : (0 : Int) ≤ (q : Int) * 2 ^ C := Int.mul_nonneg (by omega) (Int.pow_nonneg (by decide))
  have hmin : min C 64 = C := Nat.min_eq_left (by omega)
  have H := Lib.hid h
  have d1 : decide ((C : Int) < 0) = false := decide_eq_false (by omega)
  have d2 : decide (32 < (C : Int)) = false := decide_eq_false (by omega)
  clear h
  go_enter Try.func50, Try.ntmps50
  go_wp2
  refine wp_scope_jumps 0 (fun a' wx => ∃ (k z : Nat) (u3 u4 u5 u6 u7 u9 u10 u11 u12 u13 u14 u15 u16 u17 u18 u19 u20 u21 u22 u23 u24 u25 u26 u27 u28 u29 u30 u31 u32 u33 u34 u35 u36 u37 u38 u39 u40 u41 u42 u43 u44 u45 u46 u47 u48 u49 u50 u51 u52 u53 u54 u55 : Value), a' = { tmps := #[.pointer (some ⟨r, 0, none⟩), .int .i64 (C : Int), .int .u64 (most : Int), u3, u4, u5, u6, u7, .int .u64 (k : Int), u9, u10, u11, u12, u13, u14, u15, u16, u17, u18, u19, u20, u21, u22, u23, u24, u25, u26, u27, u28, u29, u30, u31, u32, u33, u34, u35, u36, u37, u38, u39, u40, u41, u42, u43, u44, u45, u46, u47, u48, u49, u50, u51, u52, u53, u54, u55], defers := [] } ∧ Hid (k + z = q ∧ RdAt wx r (List.replicate z true ++ false :: t) ∧ Keep (fun k => k = r) w wx)) (fun a' _ => q - uOf (a'.tmps.getD 8 undef)) rfl ?_ ?_
  · go_wp2_with fail
    refine PN.out.mono ?_
    rintro e w1 ⟨rfl, rfl⟩
    rcases hzq : q with _ | j
    · have HM := Lib.hid (show 0 + 0 = q ∧ RdAt w r (List.replicate 0 true ++ false :: t) ∧ Keep (fun k => k = r) w w from ⟨by omega, by have := H.out; rw [hzq] at this; exact this, Keep.refl _ _⟩)
      obtain ⟨e1, q1, q2⟩ := HM.out
      have hq0 : q = 0 := by omega
      rw [List.replicate_zero, List.nil_append] at q1
      have PP := Lib.hid (vbit r false t w q1)
      have PV := Lib.hid (fun w' h => vbits r t C w' h (by omega) hCt)
      have HQ := Lib.hid q2
      clear q1 q2 e1 HM
      go_wp2_with fail
      go_step3
      go_wp2_with fail
      refine PP.out.mono ?_
      rintro e w1 ⟨rfl, h1, h2⟩
      have PB := Lib.hid (PV.out w1 h1)
      have H2 := Lib.hid h2
      clear h1 h2
      rw [hV.out] at PB
      go_wp2_with fail
      refine PB.out.mono ?_
      rintro e w2 ⟨rfl, h3, h4⟩
      have H3 := Lib.hid h3
      have H4 := Lib.hid h4
      clear h3 h4
      go_wp2
      simp only [Exit.jump]
      go_ret2
      have hor0 : bits .or .u64 0 (V : Int) = (V : Int) := by have := hor; rw [hq0] at this; simpa using this
      refine ⟨?_, H3.out, HQ.out.trans (H2.out.trans H4.out)⟩
      show Ending.returned (.tuple #[.int .u64 (bits .or .u64 0 (V : Int)), .int .i64 0]) = _
      rw [hor0, hq0, Nat.zero_mul, Nat.zero_add]
    · have HM := Lib.hid (show 0 + (j + 1) = q ∧ RdAt w r (List.replicate (j + 1) true ++ false :: t) ∧ Keep (fun k => k = r) w w from ⟨by omega, by have := H.out; rw [hzq] at this; exact this, Keep.refl _ _⟩)
      clear hzq
      obtain ⟨e1, q1, q2⟩ := HM.out
      rw [List.replicate_succ, List.cons_append] at q1
      have PP := Lib.hid (vbit r true _ w q1)
      have hkm : ((0 : Int) == (most : Int)) = false := beq_false_of_ne (by omega)
      have hk64 : (0 : Nat) < 18446744073709551615 := by omega
      have HQ := Lib.hid (And.intro q2 e1)
      clear q1 q2 e1 HM
      go_wp2_with fail
      go_step3
      go_wp2_with fail
      refine PP.out.mono ?_
      rintro e w1 ⟨rfl, h1, h2⟩
      have H1 := Lib.hid h1
      have H2 := Lib.hid h2
      clear h1 h2
      go_wp2
      go_step3
      obtain ⟨q2, e1⟩ := HQ.out
      exact ⟨rfl, ⟨0 + 1, j, _, _, _, _, _, _, _, _, _, _, _, _, _, _, _, _, _, _, _, _, _, _, _, _, _, _, _, _, _, _, _, _, _, _, _, _, _, _, _, _, _, _, _, _, _, _, _, _, _, _, _, _, rfl, ⟨by omega, H1.out, q2.trans H2.out⟩⟩⟩
  · rintro a' wr ⟨k, z, u3, u4, u5, u6, u7, u9, u10, u11, u12, u13, u14, u15, u16, u17, u18, u19, u20, u21, u22, u23, u24, u25, u26, u27, u28, u29, u30, u31, u32, u33, u34, u35, u36, u37, u38, u39, u40, u41, u42, u43, u44, u45, u46, u47, u48, u49, u50, u51, u52, u53, u54, u55, rfl, HM⟩
    rcases z with _ | j
    ·
      obtain ⟨e1, q1, q2⟩ := HM.out
      obtain rfl : k = q := by omega
      rw [List.replicate_zero, List.nil_append] at q1
      have PP := Lib.hid (vbit r false t wr q1)
      have PV := Lib.hid (fun w' h => vbits r t C w' h (by omega) hCt)
      have HQ := Lib.hid q2
      clear q1 q2 e1 HM
      go_wp2_with fail
      refine PP.out.mono ?_
      rintro e w1 ⟨rfl, h1, h2⟩
      have PB := Lib.hid (PV.out w1 h1)
      have H2 := Lib.hid h2
      clear h1 h2
      rw [hV.out] at PB
      go_wp2_with fail
      refine PB.out.mono ?_
      rintro e w2 ⟨rfl, h3, h4⟩
      have H3 := Lib.hid h3
      have H4 := Lib.hid h4
      clear h3 h4
      go_wp2
      simp only [Exit.jump]
      go_ret2
      refine ⟨?_, H3.out, HQ.out.trans (H2.out.trans H4.out)⟩
      rw [show ((k * 2 ^ C + V : Nat) : Int) = (k : Int) * 2 ^ C + V from by simp]; rfl
    ·
      obtain ⟨e1, q1, q2⟩ := HM.out
      rw [List.replicate_succ, List.cons_append] at q1
      have PP := Lib.hid (vbit r true _ wr q1)
      have hkm : ((k : Int) == (most : Int)) = false := beq_false_of_ne (by omega)
      have hk64 : (k : Nat) < 18446744073709551615 := by omega
      have HQ := Lib.hid (And.intro q2 e1)
      clear q1 q2 e1 HM
      go_wp2_with fail
      refine PP.out.mono ?_
      rintro e w1 ⟨rfl, h1, h2⟩
      have H1 := Lib.hid h1
      have H2 := Lib.hid h2
      clear h1 h2
      go_wp2
      go_step3
      obtain ⟨q2, e1⟩ := HQ.out
      refine ⟨rfl, ⟨k + 1, j, _, _, _, _, _, _, _, _, _, _, _, _, _, _, _, _, _, _, _, _, _, _, _, _, _, _, _, _, _, _, _, _, _, _, _, _, _, _, _, _, _, _, _, _, _, _, _, _, _, _, _, _, rfl, ⟨by omega, H1.out, q2.trans H2.out⟩⟩, ?_⟩
      simp [uOf]; omega
end Go.Proofs.Ytppcccocnmhbgaa
end

section
/- The reader's walks where it fails. -/
namespace Go.Proofs.Ytppcccocnmhbgaa
open Go Go.RowKit
set_option maxRecDepth 100000
set_option linter.unusedSimpArgs false

theorem vbit0 (r : Nat) (w : World) (h : RdAt w r []) :
    Calls Try.prog 83 #[.pointer (some ⟨r, 0, none⟩)] w fun e w' => e = .returned (.tuple #[.bool false, .int .i64 50]) ∧ Keep (fun k => k = r) w w' := by
  have PN := Lib.hid (vnone r w (by obtain ⟨q, c, t, Z, h1, _⟩ := h; exact h1.cell 0))
  have PL := Lib.hid (vleft r [] w h)
  clear h
  go_enter Try.func83, Try.ntmps83
  go_wp2_with fail
  refine PN.out.mono ?_
  rintro e w1 ⟨rfl, rfl⟩
  go_wp2_with fail
  refine PL.out.mono ?_
  rintro e w1 ⟨rfl, rfl⟩
  go_wp2
  go_ret2
  exact ⟨rfl, (Keep.refl (fun k => k = r) w).drew⟩
theorem vbitsE (r : Nat) (s : List Bool) (C : Nat) (w : World) (h : RdAt w r s) (hC : C ≤ 64) (hs : s.length < C) :
    Calls Try.prog 52 #[.pointer (some ⟨r, 0, none⟩), .int .i64 (C : Int)] w fun e w' => e = .returned (.tuple #[.int .u64 0, .int .i64 50]) ∧ Keep (fun k => k = r) w w' := by
  have hlen := h.len
  have PN := Lib.hid (vnone r w (by obtain ⟨q, c, t, Z, h1, _⟩ := h; exact h1.cell 0))
  have PL := Lib.hid (vleft r s w h)
  have hl : decide ((s.length : Int) < (C : Int)) = true := decide_eq_true (by omega)
  have hl2 : decide (s.length < C) = true := decide_eq_true (by omega)
  have d1 : decide ((C : Int) < 0) = false := decide_eq_false (by omega)
  have d2 : decide (64 < (C : Int)) = false := decide_eq_false (by omega)
  clear h
  go_enter Try.func52, Try.ntmps52
  go_wp2_with fail
  refine PN.out.mono ?_
  rintro e w1 ⟨rfl, rfl⟩
  go_wp2_with fail
  refine PL.out.mono ?_
  rintro e w1 ⟨rfl, rfl⟩
  go_wp2
  go_ret2
  exact ⟨rfl, (Keep.refl (fun k => k = r) w).drew⟩
set_option maxHeartbeats 6400000 in
theorem vriceF (r q C most : Nat) (T : List Bool) (w : World) (h : RdAt w r (List.replicate q true ++ T)) (hqm : q ≤ most) (hm : most < 18446744073709551616) (hC : C ≤ 32)
    (hf : T = [] ∨ (∃ t, T = false :: t ∧ t.length < C) ∨ (∃ t, T = true :: t ∧ q = most)) :
    Calls Try.prog 50 #[.pointer (some ⟨r, 0, none⟩), .int .i64 (C : Int), .int .u64 (most : Int)] w fun e w' => ∃ x : Int, (x = 50 ∨ x = 51) ∧ e = .returned (.tuple #[.int .u64 0, .int .i64 x]) ∧ Keep (fun k => k = r) w w' := by
  have PN := Lib.hid (vnone r w (by obtain ⟨q, c, t, Z, h1, _⟩ := h; exact h1.cell 0))
  have H := Lib.hid h
  have HF := Lib.hid hf
  have d1 : decide ((C : Int) < 0) = false := decide_eq_false (by omega)
  have d2 : decide (32 < (C : Int)) = false := decide_eq_false (by omega)
  clear h hf
  go_enter Try.func50, Try.ntmps50
  go_wp2
  refine wp_scope_jumps 0 (fun a' wx => ∃ (k z : Nat) (u3 u4 u5 u6 u7 u9 u10 u11 u12 u13 u14 u15 u16 u17 u18 u19 u20 u21 u22 u23 u24 u25 u26 u27 u28 u29 u30 u31 u32 u33 u34 u35 u36 u37 u38 u39 u40 u41 u42 u43 u44 u45 u46 u47 u48 u49 u50 u51 u52 u53 u54 u55 : Value), a' = { tmps := #[.pointer (some ⟨r, 0, none⟩), .int .i64 (C : Int), .int .u64 (most : Int), u3, u4, u5, u6, u7, .int .u64 (k : Int), u9, u10, u11, u12, u13, u14, u15, u16, u17, u18, u19, u20, u21, u22, u23, u24, u25, u26, u27, u28, u29, u30, u31, u32, u33, u34, u35, u36, u37, u38, u39, u40, u41, u42, u43, u44, u45, u46, u47, u48, u49, u50, u51, u52, u53, u54, u55], defers := [] } ∧ Hid (k + z = q ∧ RdAt wx r (List.replicate z true ++ T) ∧ Keep (fun k => k = r) w wx)) (fun a' _ => q - uOf (a'.tmps.getD 8 undef)) rfl ?_ ?_
  · go_wp2_with fail
    refine PN.out.mono ?_
    rintro e w1 ⟨rfl, rfl⟩
    rcases hzq : q with _ | j
    · have HM := Lib.hid (show 0 + 0 = q ∧ RdAt w r (List.replicate 0 true ++ T) ∧ Keep (fun k => k = r) w w from ⟨by omega, by have := H.out; rw [hzq] at this; exact this, Keep.refl _ _⟩)
      obtain ⟨e1, q1, q2⟩ := HM.out
      have hq0 : q = 0 := by omega
      rw [List.replicate_zero, List.nil_append] at q1
      have HQ := Lib.hid q2
      rcases HF.out with hT | ⟨t, hT, hCt⟩ | ⟨t, hT, hqm2⟩
      · rw [hT] at q1
        have PP := Lib.hid (vbit0 r w q1)
        clear q1 q2 e1 HM hT
        go_wp2_with fail
        go_step3
        go_wp2_with fail
        refine PP.out.mono ?_
        rintro e w1 ⟨rfl, h2⟩
        have H2 := Lib.hid h2
        clear h2
        go_wp2
        simp only [Exit.jump]
        go_ret2
        exact ⟨50, .inl rfl, rfl, HQ.out.trans H2.out⟩
      · rw [hT] at q1
        have PP := Lib.hid (vbit r false t w q1)
        have PV := Lib.hid (fun w' h => vbitsE r t C w' h (by omega) hCt)
        clear q1 q2 e1 HM hT
        go_wp2_with fail
        go_step3
        go_wp2_with fail
        refine PP.out.mono ?_
        rintro e w1 ⟨rfl, h1, h2⟩
        have PB := Lib.hid (PV.out w1 h1)
        have H2 := Lib.hid h2
        clear h1 h2
        go_wp2_with fail
        refine PB.out.mono ?_
        rintro e w2 ⟨rfl, h4⟩
        have H4 := Lib.hid h4
        clear h4
        go_wp2
        simp only [Exit.jump]
        go_ret2
        exact ⟨50, .inl rfl, rfl, HQ.out.trans (H2.out.trans H4.out)⟩
      · rw [hT] at q1
        have PP := Lib.hid (vbit r true t w q1)
        have hkm : ((0 : Int) == (most : Int)) = true := by rw [beq_iff_eq]; omega
        clear q1 q2 e1 HM hT
        go_wp2_with fail
        go_step3
        go_wp2_with fail
        refine PP.out.mono ?_
        rintro e w1 ⟨rfl, h1, h2⟩
        have H2 := Lib.hid h2
        clear h1 h2
        go_wp2
        simp only [Exit.jump]
        go_ret2
        exact ⟨51, .inr rfl, rfl, HQ.out.trans H2.out⟩
    · have HM := Lib.hid (show 0 + (j + 1) = q ∧ RdAt w r (List.replicate (j + 1) true ++ T) ∧ Keep (fun k => k = r) w w from ⟨by omega, by have := H.out; rw [hzq] at this; exact this, Keep.refl _ _⟩)
      clear hzq
      obtain ⟨e1, q1, q2⟩ := HM.out
      rw [List.replicate_succ, List.cons_append] at q1
      have PP := Lib.hid (vbit r true _ w q1)
      have hkm : ((0 : Int) == (most : Int)) = false := beq_false_of_ne (by omega)
      have hk64 : (0 : Nat) < 18446744073709551615 := by omega
      have HQ := Lib.hid (And.intro q2 e1)
      clear q1 q2 e1 HM
      go_wp2_with fail
      go_step3
      go_wp2_with fail
      refine PP.out.mono ?_
      rintro e w1 ⟨rfl, h1, h2⟩
      have H1 := Lib.hid h1
      have H2 := Lib.hid h2
      clear h1 h2
      go_wp2
      go_step3
      obtain ⟨q2, e1⟩ := HQ.out
      exact ⟨rfl, ⟨0 + 1, j, _, _, _, _, _, _, _, _, _, _, _, _, _, _, _, _, _, _, _, _, _, _, _, _, _, _, _, _, _, _, _, _, _, _, _, _, _, _, _, _, _, _, _, _, _, _, _, _, _, _, _, _, rfl, ⟨by omega, H1.out, q2.trans H2.out⟩⟩⟩
  · rintro a' wr ⟨k, z, u3, u4, u5, u6, u7, u9, u10, u11, u12, u13, u14, u15, u16, u17, u18, u19, u20, u21, u22, u23, u24, u25, u26, u27, u28, u29, u30, u31, u32, u33, u34, u35, u36, u37, u38, u39, u40, u41, u42, u43, u44, u45, u46, u47, u48, u49, u50, u51, u52, u53, u54, u55, rfl, HM⟩
    rcases z with _ | j
    ·
      obtain ⟨e1, q1, q2⟩ := HM.out
      obtain rfl : k = q := by omega
      rw [List.replicate_zero, List.nil_append] at q1
      have HQ := Lib.hid q2
      rcases HF.out with hT | ⟨t, hT, hCt⟩ | ⟨t, hT, hqm2⟩
      · rw [hT] at q1
        have PP := Lib.hid (vbit0 r wr q1)
        clear q1 q2 e1 HM hT
        go_wp2_with fail
        refine PP.out.mono ?_
        rintro e w1 ⟨rfl, h2⟩
        have H2 := Lib.hid h2
        clear h2
        go_wp2
        simp only [Exit.jump]
        go_ret2
        exact ⟨50, .inl rfl, rfl, HQ.out.trans H2.out⟩
      · rw [hT] at q1
        have PP := Lib.hid (vbit r false t wr q1)
        have PV := Lib.hid (fun w' h => vbitsE r t C w' h (by omega) hCt)
        clear q1 q2 e1 HM hT
        go_wp2_with fail
        refine PP.out.mono ?_
        rintro e w1 ⟨rfl, h1, h2⟩
        have PB := Lib.hid (PV.out w1 h1)
        have H2 := Lib.hid h2
        clear h1 h2
        go_wp2_with fail
        refine PB.out.mono ?_
        rintro e w2 ⟨rfl, h4⟩
        have H4 := Lib.hid h4
        clear h4
        go_wp2
        simp only [Exit.jump]
        go_ret2
        exact ⟨50, .inl rfl, rfl, HQ.out.trans (H2.out.trans H4.out)⟩
      · rw [hT] at q1
        have PP := Lib.hid (vbit r true t wr q1)
        have hkm : ((k : Int) == (most : Int)) = true := by rw [beq_iff_eq]; omega
        clear q1 q2 e1 HM hT
        go_wp2_with fail
        refine PP.out.mono ?_
        rintro e w1 ⟨rfl, h1, h2⟩
        have H2 := Lib.hid h2
        clear h1 h2
        go_wp2
        simp only [Exit.jump]
        go_ret2
        exact ⟨51, .inr rfl, rfl, HQ.out.trans H2.out⟩
    ·
      obtain ⟨e1, q1, q2⟩ := HM.out
      rw [List.replicate_succ, List.cons_append] at q1
      have PP := Lib.hid (vbit r true _ wr q1)
      have hkm : ((k : Int) == (most : Int)) = false := beq_false_of_ne (by omega)
      have hk64 : (k : Nat) < 18446744073709551615 := by omega
      have HQ := Lib.hid (And.intro q2 e1)
      clear q1 q2 e1 HM
      go_wp2_with fail
      refine PP.out.mono ?_
      rintro e w1 ⟨rfl, h1, h2⟩
      have H1 := Lib.hid h1
      have H2 := Lib.hid h2
      clear h1 h2
      go_wp2
      go_step3
      obtain ⟨q2, e1⟩ := HQ.out
      refine ⟨rfl, ⟨k + 1, j, _, _, _, _, _, _, _, _, _, _, _, _, _, _, _, _, _, _, _, _, _, _, _, _, _, _, _, _, _, _, _, _, _, _, _, _, _, _, _, _, _, _, _, _, _, _, _, _, _, _, _, _, rfl, ⟨by omega, H1.out, q2.trans H2.out⟩⟩, ?_⟩
      simp [uOf]; omega
end Go.Proofs.Ytppcccocnmhbgaa
end
