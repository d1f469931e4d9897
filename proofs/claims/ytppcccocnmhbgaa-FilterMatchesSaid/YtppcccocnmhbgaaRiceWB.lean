/- The walks of layer 11: the writer's Bit, Bits, Rice, Bytes, New. -/
import Derived.Test.YtppcccocnmhbgaaRiceW
import Derived.Deep.LoopGhost
namespace Go.Proofs.Ytppcccocnmhbgaa
open Go Go.RowKit
set_option maxRecDepth 100000
set_option linter.unusedSimpArgs false

/-- a writer grew -/
def Grew (w w' : World) (p : Nat) (l : List Bool) (o : Option Nat) : Prop := ∃ o', WAt w' p l o' ∧ (∀ g, o' = some g → o = some g ∨ w.heap.size ≤ g) ∧ Keep (foot p o) w w'
theorem Grew.refl {w : World} {p : Nat} {l : List Bool} {o : Option Nat} (h : WAt w p l o) : Grew w w p l o := ⟨o, h, fun _ h => .inl h, Keep.refl _ _⟩
theorem Grew.more {w w1 w2 : World} {p : Nat} {l : List Bool} {o o1 : Option Nat} (h : ∀ g, o1 = some g → o = some g ∨ w.heap.size ≤ g) (hk : Keep (foot p o) w w1) (k : Grew w1 w2 p l o1) : Grew w w2 p l o := by
  obtain ⟨o2, k1, k2, k3⟩ := k
  refine ⟨o2, k1, fun g hg => ?_, hk.trans' k3 fun k e => ?_⟩
  · rcases k2 g hg with e | e
    · exact h g e
    · exact .inr (Nat.le_trans hk.size e)
  · rcases e with e | e
    · exact .inl (.inl e)
    · exact (h k e).imp .inr id
theorem Grew.drew {w w' : World} {p : Nat} {l : List Bool} {o : Option Nat} (h : Grew w w' p l o) : Grew w w'.drew p l o := by
  obtain ⟨o2, ⟨v, h1, h2, h3⟩, k2, k3⟩ := h
  exact ⟨o2, ⟨v, h1.drew, h2.keep (X := fun _ => False) (Keep.refl _ _).drew (fun _ _ h => h), h3⟩, k2, k3.drew⟩
/-- the lowest bits of n, the highest of them first -/
def bitsOf (n : Nat) : Nat → List Bool
  | 0 => []
  | k + 1 => n.testBit k :: bitsOf n k
theorem bitsOf_length (n k : Nat) : (bitsOf n k).length = k := by induction k with | zero => rfl | succ k ih => simp [bitsOf, ih]
def bitsE (c : Int) : Int := if c < 0 ∨ 64 < c then 1 else 0
def bitsL (l : List Bool) (n : Nat) (c : Int) : List Bool := if c < 0 ∨ 64 < c then l else l ++ bitsOf n c.toNat
/-- n by quotient and rest -/
def riceE (n : Nat) (c : Int) : Int := if c < 0 ∨ 32 < c ∨ 65535 < n / 2 ^ c.toNat then 1 else 0
def riceL (l : List Bool) (n : Nat) (c : Int) : List Bool := if c < 0 ∨ 32 < c ∨ 65535 < n / 2 ^ c.toNat then l else l ++ List.replicate (n / 2 ^ c.toNat) true ++ [false] ++ bitsOf n c.toNat
theorem bit_put (n k : Nat) (h : n < 18446744073709551616) : bits .and .u64 ((n : Int) / 2 ^ k) 1 = ((n.testBit k).toNat : Int) := by
  rw [← bt_eq]
  have e : ((n : Int) / 2 ^ k) = ((n / 2 ^ k : Nat) : Int) := by rw [Int.natCast_ediv, Int.natCast_pow]; rfl
  rw [e, and1 _ (Nat.lt_of_le_of_lt (Nat.div_le_self _ _) h)]; rfl
theorem cnone (p : Nat) (w : World) (h : w.cell? ⟨p, 0, none⟩ = some (.bool true)) : Calls Try.prog 68 #[.pointer (some ⟨p, 0, none⟩)] w fun e w' => e = .returned (.bool false) ∧ w = w' := by
  go_enter Try.func68, Try.ntmps68
  go_wp2
  go_ret
  exact ⟨rfl, rfl⟩
set_option maxHeartbeats 1600000 in
theorem cbits (p : Nat) (l : List Bool) (n : Nat) (c : Int) (o : Option Nat) (w : World) (h : WAt w p l o) (hl : l.length ≤ 1099511627000) (hn : n < 18446744073709551616) :
    Calls Try.prog 70 #[.pointer (some ⟨p, 0, none⟩), .int .u64 (n : Int), .int .i64 c] w fun e w' => e = .returned (.int .i64 (bitsE c)) ∧ Grew w w' p (bitsL l n c) o := by
  have H := Lib.hid h
  have PN := Lib.hid (cnone p w (by obtain ⟨v, h1, h2, h3⟩ := h; exact h1.cell 0))
  clear h
  by_cases hc : c < 0 ∨ 64 < c
  · have HE := Lib.hid (show bitsE c = 1 from if_pos hc)
    have HL := Lib.hid (show bitsL l n c = l from if_pos hc)
    by_cases h0 : c < 0
    · have d1 : decide (c < 0) = true := decide_eq_true h0
      clear hc
      go_enter Try.func70, Try.ntmps70
      go_wp2_with fail
      refine PN.out.mono ?_
      rintro e w1 ⟨rfl, rfl⟩
      go_wp2
      go_ret
      exact ⟨by rw [HE.out]; rfl, by rw [HL.out]; exact Grew.refl H.out⟩
    · have d1 : decide (c < 0) = false := decide_eq_false h0
      have d2 : decide (64 < c) = true := decide_eq_true (by omega)
      clear hc
      go_enter Try.func70, Try.ntmps70
      go_wp2_with fail
      refine PN.out.mono ?_
      rintro e w1 ⟨rfl, rfl⟩
      go_wp2
      go_ret
      exact ⟨by rw [HE.out]; rfl, by rw [HL.out]; exact Grew.refl H.out⟩
  · have HE := Lib.hid (show bitsE c = 0 from if_neg hc)
    have HL := Lib.hid (show bitsL l n c = l ++ bitsOf n c.toNat from if_neg hc)
    have d1 : decide (c < 0) = false := decide_eq_false (by omega)
    have d2 : decide (64 < c) = false := decide_eq_false (by omega)
    have hC : c = (c.toNat : Int) := by omega
    have hC2 : c.toNat ≤ 64 := by omega
    generalize c.toNat = C at *
    subst hC
    clear hc
    go_enter Try.func70, Try.ntmps70
    go_wp2_with fail
    refine PN.out.mono ?_
    rintro e w1 ⟨rfl, rfl⟩
    go_wp2
    go_loopg [7] C (fun g a wx => ∃ (k : Nat) (z : Int) (m : List Bool), k ≤ C ∧ a = .int .i64 z ∧ z = (k : Int) - 1 ∧ g = k ∧ Hid (m ++ bitsOf n k = l ++ bitsOf n C ∧ m.length + k = l.length + C ∧ Grew w wx p m o))
    case atStart => exact ⟨C, _, l, Nat.le_refl _, rfl, rfl, rfl, rfl, rfl, Grew.refl H.out⟩
    case round =>
      obtain ⟨k, z, m, hk, rfl, hz, hg, HM⟩ := hrel
      rcases k with _ | j
      · obtain rfl : z = -1 := by omega
        clear hz hg
        go_wp2
        go_ret
        obtain ⟨e1, _, e2⟩ := HM.out
        rw [bitsOf, List.append_nil] at e1
        exact ⟨by rw [HE.out]; rfl, by rw [HL.out, ← e1]; exact e2⟩
      · obtain rfl : z = (j : Int) := by omega
        obtain ⟨e1, e2, o1, q1, q2, q3⟩ := HM.out
        have hj64 : j ≤ 63 := by omega
        have hb0 := bit_put n j hn
        have hb := hb0
        rw [← Nat.min_eq_left (show j ≤ 64 from by omega)] at hb
        rw [show n.testBit (min j 64) = n.testBit j from by rw [Nat.min_eq_left (show j ≤ 64 from by omega)]] at hb
        have PP := Lib.hid (cput p m (n.testBit j) o1 wr q1 (by omega))
        have HQ := Lib.hid (And.intro q2 (And.intro q3 (And.intro e1 (And.intro e2 (And.intro hg hk)))))
        clear q1 q2 q3 e1 e2 hg hz hk HM
        go_wp2_with fail
        refine PP.out.mono ?_
        rintro e w1 ⟨rfl, HG⟩
        have HG := Lib.hid HG
        go_wp2
        go_roundg j
        case measure => obtain ⟨_, _, _, _, e, _⟩ := HQ.out; rw [e]; exact Nat.lt_succ_self j
        case rel =>
          obtain ⟨q2, q3, e1, e2, hg, hk⟩ := HQ.out
          refine ⟨j, (j : Int) - 1, m ++ [n.testBit j], by omega, rfl, rfl, rfl, ?_, ?_, Grew.more q2 q3 HG.out⟩
          · rw [← e1, bitsOf, List.append_assoc]; rfl
          · simp; omega
end Go.Proofs.Ytppcccocnmhbgaa
