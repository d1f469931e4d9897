import Derived.Test.YtgedpgdefafofaaDoorVh2
import Derived.Deep.LoopGhost
import Derived.Deep.OwnRows
section
/- The document's writer of bits. -/
namespace Go.Proofs.YtgedpgdefafofaaDoor
open Go Go.RowKit
set_option maxRecDepth 100000
set_option linter.unusedSimpArgs false

/-- the document's writer, in memory -/
def RAt (w : World) (r : Nat) (l : List Bool) (o : Option Nat) : Prop :=
  ∃ v, Blk w r #[v] 69 ∧ RowV w 4 1 v l.length (l.map Value.bool) o ∧ o ≠ some r
theorem boolinfo : (Tryd.prog.info? 4).map (fun i => (i.zero, i.size, i.bytes)) = some (some (.bool false), 1, 1) := by kernel_rfl
/-- the document's writer grew -/
def RGrew (w w' : World) (p : Nat) (l : List Bool) (o : Option Nat) : Prop := ∃ o', RAt w' p l o' ∧ (∀ g, o' = some g → o = some g ∨ w.heap.size ≤ g) ∧ Keep (foot p o) w w'
theorem RGrew.refl {w : World} {p : Nat} {l : List Bool} {o : Option Nat} (h : RAt w p l o) : RGrew w w p l o := ⟨o, h, fun _ h => .inl h, Keep.refl _ _⟩
theorem RGrew.more {w w1 w2 : World} {p : Nat} {l : List Bool} {o o1 : Option Nat} (h : ∀ g, o1 = some g → o = some g ∨ w.heap.size ≤ g) (hk : Keep (foot p o) w w1) (k : RGrew w1 w2 p l o1) : RGrew w w2 p l o := by
  obtain ⟨o2, k1, k2, k3⟩ := k
  refine ⟨o2, k1, fun g hg => ?_, hk.trans' k3 fun k e => ?_⟩
  · rcases k2 g hg with e | e
    · exact h g e
    · exact .inr (Nat.le_trans hk.size e)
  · rcases e with e | e
    · exact .inl (.inl e)
    · exact (h k e).imp .inr id
theorem rbit (r : Nat) (l : List Bool) (b : Bool) (o : Option Nat) (w : World) (h : RAt w r l o) (hl : l.length ≤ 1099511627776) :
    Calls Tryd.prog 56 #[.pointer (some ⟨r, 0, none⟩), .bool b] w fun e w' => e = .returned (.tuple #[]) ∧ RGrew w w' r (l ++ [b]) o := by
  obtain ⟨v, h1, h2, h3⟩ := h
  obtain ⟨i0, hi, hz0, hz1, hz2⟩ := info_parts boolinfo
  obtain ⟨g, cap, w1, hrun, hrow, hg, hk⟩ := rowV_append1 (P := Tryd.prog) 67 67 i0 (.bool false) Tryd.underlying67 hi hz0 hz1 hz2 rfl h2 (.bool b) rfl (by unfold maxLen; omega) (by omega)
  have n1 : g ≠ r := by
    rcases hg with hg | hg
    · intro e; exact h3 (by rw [hg, e])
    · have := h1.lt; omega
  have B1 := hk.blk h1 (fun e => h3 e)
  have c := h1.cell
  have c' := B1.cell
  have f' := B1.free
  obtain ⟨vp, vc, rfl, _⟩ := h2.form
  have HB := Lib.hid B1
  have HR := Lib.hid hrow
  have HK := Lib.hid hk
  have HG := Lib.hid hg
  clear h1 h2 h3 hrow hk hg B1
  go_enter Tryd.func56, Tryd.ntmps56
  go_wp2_with (at_builtin; refine wpl_append rfl _ _ 67 rfl rfl rfl hrun ?_)
  go_end0
  have K1 := Keep.set (X := fun k => k = r) (Keep.refl _ w1) (p := ⟨r, 0, none⟩) (.inl rfl) (.slice (some ⟨g, 0, none⟩) (l.length + 1) cap)
  refine ⟨rfl, some g, ⟨_, HB.out.set 0 _, ?_, fun e => n1 (Option.some.inj e)⟩, fun g' e => by cases e; exact HG.out, (HK.out.mono fun k e => .inr e).trans (K1.mono fun k e => .inl e)⟩
  have h4 := HR.out.keep K1 (fun k hk e => n1 (by cases hk; exact e))
  rw [show (l ++ [b]).length = l.length + 1 from by simp, List.map_append]
  exact h4
set_option maxHeartbeats 1600000 in
theorem rbits (p : Nat) (l : List Bool) (n : Nat) (c : Int) (o : Option Nat) (w : World) (h : RAt w p l o) (hl : l.length ≤ 1099511627000) (hn : n < 18446744073709551616) :
    Calls Tryd.prog 57 #[.pointer (some ⟨p, 0, none⟩), .int .u64 (n : Int), .int .i64 c] w fun e w' => e = .returned (.int .i64 (bitsE c)) ∧ RGrew w w' p (bitsL l n c) o := by
  have H := Lib.hid h
  clear h
  by_cases hc : c < 0 ∨ 64 < c
  · have HE := Lib.hid (show bitsE c = 1 from if_pos hc)
    have HL := Lib.hid (show bitsL l n c = l from if_pos hc)
    by_cases h0 : c < 0
    · have d1 : decide (c < 0) = true := decide_eq_true h0
      clear hc
      go_enter Tryd.func57, Tryd.ntmps57
      go_wp2
      go_ret
      exact ⟨by rw [HE.out]; rfl, by rw [HL.out]; exact RGrew.refl H.out⟩
    · have d1 : decide (c < 0) = false := decide_eq_false h0
      have d2 : decide (64 < c) = true := decide_eq_true (by omega)
      clear hc
      go_enter Tryd.func57, Tryd.ntmps57
      go_wp2
      go_ret
      exact ⟨by rw [HE.out]; rfl, by rw [HL.out]; exact RGrew.refl H.out⟩
  · have HE := Lib.hid (show bitsE c = 0 from if_neg hc)
    have HL := Lib.hid (show bitsL l n c = l ++ bitsOf n c.toNat from if_neg hc)
    have d1 : decide (c < 0) = false := decide_eq_false (by omega)
    have d2 : decide (64 < c) = false := decide_eq_false (by omega)
    have hC : c = (c.toNat : Int) := by omega
    have hC2 : c.toNat ≤ 64 := by omega
    generalize c.toNat = C at *
    subst hC
    clear hc
    go_enter Tryd.func57, Tryd.ntmps57
    go_wp2
    go_loopg [7] C (fun g a wx => ∃ (k : Nat) (z : Int) (m : List Bool), k ≤ C ∧ a = .int .i64 z ∧ z = (k : Int) - 1 ∧ g = k ∧ Hid (m ++ bitsOf n k = l ++ bitsOf n C ∧ m.length + k = l.length + C ∧ RGrew w wx p m o))
    case atStart => exact ⟨C, _, l, Nat.le_refl _, rfl, rfl, rfl, rfl, rfl, RGrew.refl H.out⟩
    case round =>
      obtain ⟨k, z, m, hk, rfl, hz, hg, HM⟩ := hrel
      rcases k with _ | j
      · obtain rfl : z = -1 := by omega
        clear hz hg
        go_wp2
        go_ret
        obtain ⟨e1, _, e2⟩ := HM.out
        rw [bitsOf, List.append_nil] at e1
        exact ⟨by rw [HE.out]; rfl, by rw [HL.out, ← e1]; exact e2⟩
      · obtain rfl : z = (j : Int) := by omega
        obtain ⟨e1, e2, o1, q1, q2, q3⟩ := HM.out
        have hj64 : j ≤ 63 := by omega
        have hb0 := bit_put n j hn
        have hb := hb0
        rw [← Nat.min_eq_left (show j ≤ 64 from by omega)] at hb
        rw [show n.testBit (min j 64) = n.testBit j from by rw [Nat.min_eq_left (show j ≤ 64 from by omega)]] at hb
        have hbb := tb_eq (n.testBit j)
        have PP := Lib.hid (rbit p m (n.testBit j) o1 wr q1 (by omega))
        have HQ := Lib.hid (And.intro q2 (And.intro q3 (And.intro e1 (And.intro e2 (And.intro hg hk)))))
        clear q1 q2 q3 e1 e2 hg hz hk HM
        go_wp2_with fail
        refine PP.out.mono ?_
        rintro e w1 ⟨rfl, HG⟩
        have HG := Lib.hid HG
        go_wp2
        go_roundg j
        case measure => obtain ⟨_, _, _, _, e, _⟩ := HQ.out; rw [e]; exact Nat.lt_succ_self j
        case rel =>
          obtain ⟨q2, q3, e1, e2, hg, hk⟩ := HQ.out
          refine ⟨j, (j : Int) - 1, m ++ [n.testBit j], by omega, rfl, rfl, rfl, ?_, ?_, RGrew.more q2 q3 HG.out⟩
          · rw [← e1, bitsOf, List.append_assoc]; rfl
          · simp; omega
set_option maxHeartbeats 1600000 in
theorem rrice (p : Nat) (l : List Bool) (n : Nat) (c : Int) (o : Option Nat) (w : World) (h : RAt w p l o) (hl : l.length ≤ 1099511000000) (hn : n < 18446744073709551616) :
    Calls Tryd.prog 29 #[.pointer (some ⟨p, 0, none⟩), .int .u64 (n : Int), .int .i64 c] w fun e w' => e = .returned (.int .i64 (riceE n c)) ∧ RGrew w w' p (riceL l n c) o := by
  have H := Lib.hid h
  clear h
  by_cases hc : c < 0 ∨ 32 < c ∨ 65535 < n / 2 ^ c.toNat
  · have HE := Lib.hid (show riceE n c = 1 from if_pos hc)
    have HL := Lib.hid (show riceL l n c = l from if_pos hc)
    by_cases h0 : c < 0
    · have d1 : decide (c < 0) = true := decide_eq_true h0
      clear hc
      go_enter Tryd.func29, Tryd.ntmps29
      go_wp2
      go_ret
      exact ⟨by rw [HE.out]; rfl, by rw [HL.out]; exact RGrew.refl H.out⟩
    · have d1 : decide (c < 0) = false := decide_eq_false h0
      by_cases h1 : 32 < c
      · have d2 : decide (32 < c) = true := decide_eq_true h1
        clear hc
        go_enter Tryd.func29, Tryd.ntmps29
        go_wp2
        go_ret
        exact ⟨by rw [HE.out]; rfl, by rw [HL.out]; exact RGrew.refl H.out⟩
      · have d2 : decide (32 < c) = false := decide_eq_false h1
        have hC : c = (c.toNat : Int) := by omega
        have hC2 : c.toNat ≤ 32 := by omega
        have hq : 65535 < n / 2 ^ c.toNat := by omega
        generalize c.toNat = C at *
        subst hC
        have hq0 : (n : Int) / 2 ^ C = ((n / 2 ^ C : Nat) : Int) := by rw [Int.natCast_ediv, Int.natCast_pow]; rfl
        generalize n / 2 ^ C = q at *
        have hq1 : (n : Int) / 2 ^ (min C 64) = (q : Int) := by rw [Nat.min_eq_left (by omega)]; exact hq0
        clear hc
        go_enter Tryd.func29, Tryd.ntmps29
        go_wp2
        go_ret
        exact ⟨by rw [HE.out]; rfl, by rw [HL.out]; exact RGrew.refl H.out⟩
  · have HE := Lib.hid (show riceE n c = 0 from if_neg hc)
    have HL := Lib.hid (show riceL l n c = l ++ List.replicate (n / 2 ^ c.toNat) true ++ [false] ++ bitsOf n c.toNat from if_neg hc)
    have HBE := Lib.hid (show bitsE c = 0 from if_neg (by omega))
    have HBL := Lib.hid (fun l => show bitsL l n c = l ++ bitsOf n c.toNat from if_neg (by omega))
    have d1 : decide (c < 0) = false := decide_eq_false (by omega)
    have d2 : decide (32 < c) = false := decide_eq_false (by omega)
    have hC : c = (c.toNat : Int) := by omega
    have hC2 : c.toNat ≤ 32 := by omega
    have hq : n / 2 ^ c.toNat ≤ 65535 := by omega
    clear hc
    generalize c.toNat = C at *
    subst hC
    have hq0 : (n : Int) / 2 ^ C = ((n / 2 ^ C : Nat) : Int) := by rw [Int.natCast_ediv, Int.natCast_pow]; rfl
    generalize n / 2 ^ C = q at *
    have hq1 : (n : Int) / 2 ^ (min C 64) = (q : Int) := by rw [Nat.min_eq_left (by omega)]; exact hq0
    go_enter Tryd.func29, Tryd.ntmps29
    go_wp2
    go_loopg [22] q (fun g a wx => ∃ k : Nat, k ≤ q ∧ a = .int .u64 (k : Int) ∧ g = q - k ∧ Hid (RGrew w wx p (l ++ List.replicate k true) o))
    case atStart => exact ⟨0, Nat.zero_le _, rfl, rfl, by rw [List.replicate_zero, List.append_nil]; exact RGrew.refl H.out⟩
    case round =>
      obtain ⟨k, hk, rfl, hg, HM⟩ := hrel
      obtain ⟨o1, q1, q2, q3⟩ := HM.out
      by_cases hlt : k < q
      · have PP := Lib.hid (rbit p (l ++ List.replicate k true) true o1 wr q1 (by simp; omega))
        have HQ := Lib.hid (And.intro q2 (And.intro q3 hg))
        clear q1 q2 q3 hg HM
        go_wp2_with fail
        refine PP.out.mono ?_
        rintro e w1 ⟨rfl, HG⟩
        have HG := Lib.hid HG
        go_wp2
        go_roundg (q - (k + 1))
        case measure => obtain ⟨_, _, e⟩ := HQ.out; rw [e]; omega
        case rel =>
          obtain ⟨q2, q3, _⟩ := HQ.out
          have e3 := RGrew.more q2 q3 HG.out
          rw [List.append_assoc, ← List.replicate_succ'] at e3
          exact ⟨k + 1, by omega, rfl, rfl, e3⟩
      · obtain rfl : k = q := by omega
        have PP := Lib.hid (rbit p (l ++ List.replicate k true) false o1 wr q1 (by simp; omega))
        have PB := Lib.hid (fun o' w' h => rbits p (l ++ List.replicate k true ++ [false]) n C o' w' h (by simp; omega) hn)
        have HQ := Lib.hid (And.intro q2 q3)
        clear q1 q2 q3 HM hg
        go_wp2_with fail
        refine PP.out.mono ?_
        rintro e w1 ⟨rfl, o2, g1, g2, g3⟩
        have PB2 := Lib.hid (PB.out o2 w1 g1)
        have HG := Lib.hid (And.intro g2 g3)
        clear g1 g2 g3
        go_wp2_with fail
        refine PB2.out.mono ?_
        rintro e w2 ⟨rfl, HB⟩
        rw [HBE.out]
        have HB := Lib.hid HB
        go_wp2
        go_ret
        have e3 := RGrew.more HQ.out.1 HQ.out.2 (RGrew.more HG.out.1 HG.out.2 HB.out)
        rw [HBL.out] at e3
        exact ⟨by rw [HE.out]; rfl, by rw [HL.out]; exact e3⟩
theorem shr_put (k : Nat) : (128 : Int) / 2 ^ (k % 8) = ((2 ^ (7 - k % 8) : Nat) : Int) := by
  have : k % 8 < 8 := Nat.mod_lt _ (by decide)
  rcases (by omega : k % 8 = 0 ∨ k % 8 = 1 ∨ k % 8 = 2 ∨ k % 8 = 3 ∨ k % 8 = 4 ∨ k % 8 = 5 ∨ k % 8 = 6 ∨ k % 8 = 7) with h | h | h | h | h | h | h | h <;> rw [h] <;> rfl
theorem or_partW (l : List Bool) (k : Nat) : bits .or .u8 ((accB l k (k / 8) : Nat) : Int) ((2 ^ (7 - k % 8) : Nat) : Int) = ((accB l k (k / 8) ||| 2 ^ (7 - k % 8) : Nat) : Int) :=
  u8_or_nat _ _ (accB_lt _ _ _) (by
    have : 2 ^ (7 - k % 8) ≤ 2 ^ 7 := Nat.pow_le_pow_right (by decide) (by omega)
    omega)
set_option maxHeartbeats 1600000 in
theorem rbytes (r : Nat) (l : List Bool) (o : Option Nat) (w : World) (h : RAt w r l o) (hl : l.length ≤ 1099511627776) :
    Calls Tryd.prog 31 #[.pointer (some ⟨r, 0, none⟩)] w fun e w' => ∃ g, e = .returned (.slice (some ⟨g, 0, none⟩) (pack l).length (pack l).length) ∧ Blk w' g (u8s (pack l)).toArray 5 ∧ w.heap.size ≤ g ∧ Below w.heap.size w w' := by
  obtain ⟨v, h1, h2, h3⟩ := h
  obtain ⟨q, cc, rfl, hle, hm, hq⟩ := h2.form
  have c := h1.cell
  have hlt := h1.lt
  have H2 := Lib.hid h2
  have hn8 : ((l.length : Int) + 7) / 8 = (nby l.length : Int) := by unfold nby; omega
  have hnb : ∀ k, k < l.length → k / 8 < nby l.length := fun k hk => by unfold nby; omega
  have hmk := run_make_row' (P := Tryd.prog) 30 5 (.int .u8 0) 1 Tryd.underlying30 u8info rfl .i64 .i64 (nby l.length) (by unfold nby; omega) (by unfold nby; omega)
  have hz := Lib.hid (show madeCells #[Value.int .u8 0] (nby l.length) = (u8s (part l 0)).toArray from by
    apply Array.ext'
    rw [toList_madeCells_one, part_zero])
  have HP := Lib.hid (pack_length l)
  have HNB := Lib.hid hnb
  have HQ := Lib.hid hq
  clear h1 h2 h3 hnb hq
  generalize hN : nby l.length = N at *
  clear hN
  go_enter Tryd.func31, Tryd.ntmps31
  go_wp2
  rw [hz.out]
  go_loopg [19] l.length (fun g a wx => ∃ k : Nat, k ≤ l.length ∧ a = .int .i64 (k : Int) ∧ g = l.length - k ∧ Hid (Below w.heap.size w wx ∧ Blk wx w.heap.size (u8s (part l k)).toArray 5))
  case atStart => exact ⟨0, Nat.zero_le _, rfl, rfl, (Below.refl _ _).alloc (Nat.le_refl _) _, Blk.new _ _ _⟩
  case round =>
    obtain ⟨k, hk, rfl, hg, HM⟩ := hrel
    by_cases hkl : k < l.length
    · obtain ⟨og, cap, rfl, hv, _, _, hog, hcell, _⟩ := H2.out.mem (by omega)
      cases hv
      have cb := hcell k (by omega)
      rw [List.getElem?_map, List.getElem?_eq_getElem hkl, Option.map_some] at cb
      rw [← HM.out.1.cell (p := ⟨og, k, none⟩) hog] at cb
      have hkn := HNB.out k hkl
      have hlw := HM.out.2.lt
      have cg : ∀ v, (u8s (part l k))[k / 8]? = some v → wr.cell? ⟨w.heap.size, k / 8, none⟩ = some v := fun v hv => by rw [HM.out.2.cell]; simpa using hv
      have fg := HM.out.2.free (k / 8)
      have sh := shr_put k
      have op := or_partW l k
      have HG := Lib.hid hg
      clear hcell hmk hg
      generalize hb : l[k] = b at *
      have hgd : l.getD k false = b := by simp [List.getD, hkl, hb]
      cases b with
      | false =>
        have HS := Lib.hid (part_skip l k hgd)
        clear cg hgd hb sh op
        go_wp2
        go_roundg (l.length - (k + 1))
        case measure => rw [HG.out]; omega
        case rel => exact ⟨k + 1, by omega, rfl, rfl, HM.out.1, by rw [HS.out]; exact HM.out.2⟩
      | true =>
        have HS := Lib.hid (part_one l k hgd)
        have cg := cg _ (u8part_get l k (k / 8) (by have := HNB.out k hkl; have := HP.out; rw [pack_length] at this; omega))
        clear hgd hb
        go_wp2
        go_region
        go_wp2
        go_roundg (l.length - (k + 1))
        case measure => rw [HG.out]; omega
        case rel =>
          have op2 := or_partW l k
          rw [show ((2 ^ (7 - k % 8) : Nat) : Int) = (2 : Int) ^ (7 - k % 8) from by simp] at op2
          rw [op2]
          refine ⟨k + 1, by omega, rfl, rfl, (HM.out.1.setCell (Nat.le_refl _) _).drew, ?_⟩
          have e := (HM.out.2.set (k / 8) (.int .u8 ((accB l k (k / 8) ||| 2 ^ (7 - k % 8) : Nat) : Int))).drew
          rw [List.setIfInBounds_toArray, ← HS.out] at e
          exact e
    · obtain rfl : k = l.length := by omega
      go_wp2
      go_ret
      exact ⟨w.heap.size, by rw [HP.out]; rfl, HM.out.2, Nat.le_refl _, HM.out.1⟩
end Go.Proofs.YtgedpgdefafofaaDoor
end
