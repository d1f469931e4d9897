/- The walks of layer 11: the reader. -/
import Derived.Test.YtppcccocnmhbgaaUnpack
import Derived.Deep.LoopGhost
namespace Go.Proofs.Ytppcccocnmhbgaa
open Go Go.RowKit
set_option maxRecDepth 100000
set_option linter.unusedSimpArgs false

/-- a reader that a call made, in memory, and the bits that are left -/
def RdAt (w : World) (r : Nat) (s : List Bool) : Prop :=
  ∃ (q : Option Addr) (c t : Nat) (Z : List Int), Blk w r #[.bool true, .slice q Z.length c, .int .i64 (t : Int)] 119 ∧ Lib.BytesIn w q Z.length Z ∧ (∀ a, q = some a → a.block < r) ∧ (∀ x ∈ Z, 0 ≤ x ∧ x < 256) ∧ Z.length ≤ c ∧ (c ≤ maxLen ∧ Z.length ≤ 140737488355328) ∧ t < 8 ∧ (Z = [] → t = 0) ∧ s = (unpack Z).drop t
theorem RdAt.keep {X : Nat → Prop} {w w' : World} {r : Nat} {s : List Bool} (h : RdAt w r s) (hk : Keep X w w') (hn : ∀ k, k < w.heap.size → ¬ X k) : RdAt w' r s := by
  obtain ⟨q, c, t, Z, h1, h2, h3⟩ := h
  exact ⟨q, c, t, Z, hk.blk h1 (hn r h1.lt), bytes_keep h2 hk (fun h0 a ha => hn _ (bytes_lt h2 h0 a ha)), h3⟩
theorem RdAt.up {X : Nat → Prop} {w w' : World} {r : Nat} {s : List Bool} (h : RdAt w r s) (hk : Keep X w w') (hn : ∀ k, k ≤ r → ¬ X k) : RdAt w' r s := by
  obtain ⟨q, c, t, Z, h1, h2, h3, h4⟩ := h
  exact ⟨q, c, t, Z, hk.blk h1 (hn r (Nat.le_refl _)), bytes_keep h2 hk (fun h0 a ha => hn _ (Nat.le_of_lt (h3 a ha))), h3, h4⟩
theorem RdAt.below {w w' : World} {r : Nat} {s : List Bool} (h : RdAt w r s) (hk : Below w.heap.size w w') : RdAt w' r s :=
  h.keep (X := fun _ => False) (Keep.of_below hk) (fun _ _ h => h)
theorem RdAt.lt {w : World} {r : Nat} {s : List Bool} (h : RdAt w r s) : r < w.heap.size := by
  obtain ⟨q, c, t, Z, h1, _⟩ := h
  exact h1.lt
theorem RdAt.len {w : World} {r : Nat} {s : List Bool} (h : RdAt w r s) : s.length ≤ 1125899906842624 := by
  obtain ⟨q, c, t, Z, _, _, _, _, h1, h2, _, _, rfl⟩ := h
  rw [List.length_drop, unpack_length]; omega
theorem vnone (p : Nat) (w : World) (h : w.cell? ⟨p, 0, none⟩ = some (.bool true)) : Calls Try.prog 82 #[.pointer (some ⟨p, 0, none⟩)] w fun e w' => e = .returned (.bool false) ∧ w = w' := by
  go_enter Try.func82, Try.ntmps82
  go_wp2
  go_ret
  exact ⟨rfl, rfl⟩
theorem zb_val (x : Int) (t : Nat) (h0 : 0 ≤ x) (h1 : x < 256) : bits .and .u8 (x / 2 ^ (7 - t)) 1 = ((zb x t).toNat : Int) := by
  have e : x / 2 ^ (7 - t) = ((x.toNat / 2 ^ (7 - t) : Nat) : Int) := by
    rw [Int.natCast_ediv, Int.natCast_pow, Int.toNat_of_nonneg h0]; rfl
  have hl : x.toNat / 2 ^ (7 - t) < 256 := Nat.lt_of_le_of_lt (Nat.div_le_self _ _) (by omega)
  rw [e]
  have h2 := u8_and_nat (x.toNat / 2 ^ (7 - t)) 1 hl (by decide)
  rw [Nat.and_one_is_mod] at h2
  rw [show (1 : Int) = ((1 : Nat) : Int) from rfl, h2]
  unfold zb
  rw [Nat.toNat_testBit]
theorem vleft (r : Nat) (s : List Bool) (w : World) (h : RdAt w r s) :
    Calls Try.prog 51 #[.pointer (some ⟨r, 0, none⟩)] w fun e w' => e = .returned (.int .i64 (s.length : Int)) ∧ w' = w.drew := by
  obtain ⟨q, c, t, Z, h1, h2, h3, h4, h5, h6, h7, h8, rfl⟩ := h
  have PN := Lib.hid (vnone r w (h1.cell 0))
  have cc := h1.cell
  have hl : (((unpack Z).drop t).length : Int) = 8 * Z.length - t := by
    rw [List.length_drop, unpack_length]
    rcases Z with _ | ⟨x, R⟩
    · have := h8 rfl; subst this; rfl
    · simp; omega
  have HL := Lib.hid hl
  clear h1 h2 h3 h4 h8 hl
  go_enter Try.func51, Try.ntmps51
  go_wp2_with fail
  refine PN.out.mono ?_
  rintro e w1 ⟨rfl, rfl⟩
  go_wp2
  go_region
  go_wp2
  go_ret
  exact ⟨by rw [HL.out]; rfl, rfl⟩
set_option maxHeartbeats 1600000 in
theorem vnext (r : Nat) (b : Bool) (s : List Bool) (w : World) (h : RdAt w r (b :: s)) :
    Calls Try.prog 84 #[.pointer (some ⟨r, 0, none⟩)] w fun e w' => e = .returned (.int .u64 (b.toNat : Int)) ∧ RdAt w' r s ∧ Keep (fun k => k = r) w w' := by
  obtain ⟨q, c, t, Z, h1, h2, h3, h4, h5, h6, h7, h8, hs⟩ := h
  rcases Z with _ | ⟨x, R⟩
  · have := h8 rfl; subst this; cases hs
  · obtain ⟨qb, qo, rfl, hc⟩ := h2.at (by simp)
    have hx := h4 x (List.mem_cons_self ..)
    rw [unpack_drop x R t h7] at hs
    injection hs with hb hs
    subst hb
    have c0 := hc 0 (by simp)
    rw [List.getD_cons_zero, Nat.add_zero] at c0
    have n0 : qb < r := h3 _ rfl
    have n1 : qb ≠ r := Nat.ne_of_lt n0
    have n2 : r ≠ qb := fun e => n1 e.symm
    have cc := h1.cell
    have ff := h1.free
    have hz := zb_val x t hx.1 hx.2
    have hzr : (0 : Int) ≤ ((zb x t).toNat : Int) ∧ ((zb x t).toNat : Int) ≤ 1 := by have := Bool.toNat_le (zb x t); omega
    generalize zb x t = b at *
    have H1 := Lib.hid h1
    have H2 := Lib.hid h2
    have H4 := Lib.hid h4
    have HC := Lib.hid hc
    have HS := Lib.hid hs
    have H56 := Lib.hid (And.intro h5 h6)
    have hcm := h6.1
    have hlen : ((x :: R).length : Int) = (R.length : Int) + 1 := by simp
    clear h1 h2 h3 h4 h8 hc hs h5 h6 hx
    by_cases ht : t = 7
    · subst ht
      have hz7 : bits .and .u8 x 1 = (b.toNat : Int) := by rw [← hz]; simp
      by_cases hc1 : c = 1
      · go_enter Try.func84, Try.ntmps84
        go_wp2
        go_region
        go_wp2
        go_ret
        have K := (((Keep.refl (fun k => k = r) w).set (p := ⟨r, 2, none⟩) (.inl rfl) (.int .i64 8)).set (p := ⟨r, 1, none⟩) (.inl rfl) (.slice (some ⟨qb, qo, none⟩) R.length 0)).set (p := ⟨r, 2, none⟩) (.inl rfl) (.int .i64 0)
        have hR : R = [] := by have := H56.out.1; simp [hc1] at this; exact this
        subst hR
        exact ⟨rfl, ⟨some ⟨qb, qo, none⟩, 0, 0, [], (((H1.out.set 2 _).set 1 _).set 2 _).drew, Lib.BytesIn.nil _ _ _, fun a ha => by cases ha; exact n0, fun x hx => by (cases hx), Nat.le_refl _, by decide, by omega, fun _ => rfl, HS.out⟩, K.drew⟩
      · go_enter Try.func84, Try.ntmps84
        go_wp2
        go_region
        go_wp2
        go_ret
        have K := (((Keep.refl (fun k => k = r) w).set (p := ⟨r, 2, none⟩) (.inl rfl) (.int .i64 8)).set (p := ⟨r, 1, none⟩) (.inl rfl) (.slice (some ⟨qb, qo + 1, none⟩) R.length (c - 1))).set (p := ⟨r, 2, none⟩) (.inl rfl) (.int .i64 0)
        have hb2 : Lib.BytesIn w (some ⟨qb, qo + 1, none⟩) R.length R := fun h0 => ⟨qb, qo + 1, rfl, fun i hi => by
          have := HC.out (i + 1) (by simp; omega)
          rw [List.getD_cons_succ] at this
          rw [Nat.add_assoc, Nat.add_comm 1 i]; exact this⟩
        have h5 := H56.out.1
        have h6 := H56.out.2
        simp at h5 h6
        exact ⟨rfl, ⟨some ⟨qb, qo + 1, none⟩, c - 1, 0, R, (((H1.out.set 2 _).set 1 _).set 2 _).drew, bytes_keep hb2 K.drew (fun _ a ha e => by cases ha; exact n1 e), fun a ha => by cases ha; exact n0, fun y hy => H4.out y (List.mem_cons_of_mem _ hy), by omega, by omega, by omega, fun _ => rfl, HS.out⟩, K.drew⟩
    · have ht6 : t ≤ 6 := by omega
      have d8 : ((t : Int) + 1 == 8) = false := beq_false_of_ne (by omega)
      go_enter Try.func84, Try.ntmps84
      go_wp2
      go_region
      go_wp2
      go_ret
      have K := ((Keep.refl (fun k => k = r) w).set (p := ⟨r, 2, none⟩) (.inl rfl) (.int .i64 ((t : Int) + 1))).drew
      exact ⟨rfl, ⟨some ⟨qb, qo, none⟩, c, t + 1, x :: R, (H1.out.set 2 _).drew, bytes_keep H2.out K (fun _ a ha e => by cases ha; exact n1 e), fun a ha => by cases ha; exact n0, H4.out, H56.out.1, H56.out.2, by omega, fun h => absurd h (by simp), HS.out⟩, K⟩
end Go.Proofs.Ytppcccocnmhbgaa
