import Derived.Test.YtbjbjgfjaopibaaGreatDoorLv19
import Derived.Test.YtbjbjgfjaopibaaGreatDoorLv4
section
/- SHA-256, the document's: spread. -/
namespace Go.Proofs.YtbjbjgfjaopibaaGreatDoor
open Go Go.RowKit
set_option linter.unusedSimpArgs false
set_option linter.unusedVariables false
set_option maxRecDepth 100000

/-- so many bytes of a word -/
def horn (x : Nat → Int) (i : Nat) : Nat → Int
  | 0 => 0
  | k + 1 => horn x i k * 256 + x (4 * i + k)
theorem horn_range (x : Nat → Int) (i : Nat) (hx : ∀ j, j < 64 → 0 ≤ x j ∧ x j ≤ 255) (hi : i < 16) : ∀ k, k ≤ 4 → 0 ≤ horn x i k ∧ horn x i k < 256 ^ k
  | 0, _ => ⟨Int.le_refl 0, by show (0 : Int) < 256 ^ 0; decide⟩
  | k + 1, h => by
    have ih := horn_range x i hx hi k (by omega)
    have := hx (4 * i + k) (by omega)
    rw [Int.pow_succ]
    show 0 ≤ horn x i k * 256 + x (4 * i + k) ∧ horn x i k * 256 + x (4 * i + k) < _
    omega
theorem horn_four (x : Nat → Int) (i : Nat) (hx : ∀ j, j < 64 → 0 ≤ x j ∧ x j ≤ 255) (hi : i < 16) : horn x i 4 = iv (msgX x i) := by
  unfold msgX
  rw [iv_be4 _ _ _ _ (hx _ (by omega)) (hx _ (by omega)) (hx _ (by omega)) (hx _ (by omega))]
  show (((0 * 256 + x (4 * i + 0)) * 256 + x (4 * i + 1)) * 256 + x (4 * i + 2)) * 256 + x (4 * i + 3) = _
  rw [Nat.add_zero]; omega
theorem wcl_free (m : Nat → B32) (i : Nat) (hi : i < 64) : (wcl m i).toArray.setIfInBounds i (.int .u32 0) = (wcl m i).toArray := by
  rw [List.setIfInBounds_toArray]
  congr 1
  apply List.ext_getElem?
  intro j
  rw [List.getElem?_set]
  by_cases h : i = j
  · subst h
    rw [if_pos rfl, if_pos (by unfold wcl; rw [u32c_length]; exact hi)]
    unfold wcl
    rw [u32c_get _ _ _ hi, if_neg (by omega)]; rfl
  · rw [if_neg h]
theorem set_set (a : Array Value) (i : Nat) (x y : Value) : (a.setIfInBounds i x).setIfInBounds i y = a.setIfInBounds i y := by
  apply Array.ext_getElem?
  intro t
  rw [Array.getElem?_setIfInBounds, Array.getElem?_setIfInBounds, Array.getElem?_setIfInBounds, Array.size_setIfInBounds]
  by_cases h : i = t
  · rw [if_pos h, if_pos h]
  · rw [if_neg h, if_neg h, if_neg h]
set_option maxHeartbeats 6400000 in
theorem rspread (g o : Nat) (c : Nat) (x : Nat → Int) (hx : ∀ j, j < 64 → 0 ≤ x j ∧ x j ≤ 255) (w : World) (hc : ∀ j, j < 64 → w.cell? ⟨g, o + j, none⟩ = some (.int .u8 (x j))) :
    Calls Tryz.prog 109 #[.slice (some ⟨g, o, none⟩) 64 c] w fun e w' => e = .returned (.agg (wcl (msgX x) 64).toArray) ∧ Below w.heap.size w w' := by
  have L := two_new w #[.int .u32 0, .int .u32 0, .int .u32 0, .int .u32 0, .int .u32 0, .int .u32 0, .int .u32 0, .int .u32 0, .int .u32 0, .int .u32 0, .int .u32 0, .int .u32 0, .int .u32 0, .int .u32 0, .int .u32 0, .int .u32 0, .int .u32 0, .int .u32 0, .int .u32 0, .int .u32 0, .int .u32 0, .int .u32 0, .int .u32 0, .int .u32 0, .int .u32 0, .int .u32 0, .int .u32 0, .int .u32 0, .int .u32 0, .int .u32 0, .int .u32 0, .int .u32 0, .int .u32 0, .int .u32 0, .int .u32 0, .int .u32 0, .int .u32 0, .int .u32 0, .int .u32 0, .int .u32 0, .int .u32 0, .int .u32 0, .int .u32 0, .int .u32 0, .int .u32 0, .int .u32 0, .int .u32 0, .int .u32 0, .int .u32 0, .int .u32 0, .int .u32 0, .int .u32 0, .int .u32 0, .int .u32 0, .int .u32 0, .int .u32 0, .int .u32 0, .int .u32 0, .int .u32 0, .int .u32 0, .int .u32 0, .int .u32 0, .int .u32 0, .int .u32 0] #[.int .u32 0, .int .u32 0, .int .u32 0, .int .u32 0, .int .u32 0, .int .u32 0, .int .u32 0, .int .u32 0, .int .u32 0, .int .u32 0, .int .u32 0, .int .u32 0, .int .u32 0, .int .u32 0, .int .u32 0, .int .u32 0, .int .u32 0, .int .u32 0, .int .u32 0, .int .u32 0, .int .u32 0, .int .u32 0, .int .u32 0, .int .u32 0, .int .u32 0, .int .u32 0, .int .u32 0, .int .u32 0, .int .u32 0, .int .u32 0, .int .u32 0, .int .u32 0, .int .u32 0, .int .u32 0, .int .u32 0, .int .u32 0, .int .u32 0, .int .u32 0, .int .u32 0, .int .u32 0, .int .u32 0, .int .u32 0, .int .u32 0, .int .u32 0, .int .u32 0, .int .u32 0, .int .u32 0, .int .u32 0, .int .u32 0, .int .u32 0, .int .u32 0, .int .u32 0, .int .u32 0, .int .u32 0, .int .u32 0, .int .u32 0, .int .u32 0, .int .u32 0, .int .u32 0, .int .u32 0, .int .u32 0, .int .u32 0, .int .u32 0, .int .u32 0] 143 143
  have hgl := cell_lt (hc 0 (by decide))
  have HX := Lib.hid hx
  have HC := Lib.hid (fun j hj => (L.2.2.cell (p := ⟨g, o + j, none⟩) hgl).trans (hc j hj) : ∀ j, j < 64 → _ = some (Value.int .u8 (x j)))
  clear hc hx
  go_enter Tryz.func109, Tryz.ntmps109
  go_upto_region 2 with fail
  generalize ((w.alloc (.cells #[.int .u32 0, .int .u32 0, .int .u32 0, .int .u32 0, .int .u32 0, .int .u32 0, .int .u32 0, .int .u32 0, .int .u32 0, .int .u32 0, .int .u32 0, .int .u32 0, .int .u32 0, .int .u32 0, .int .u32 0, .int .u32 0, .int .u32 0, .int .u32 0, .int .u32 0, .int .u32 0, .int .u32 0, .int .u32 0, .int .u32 0, .int .u32 0, .int .u32 0, .int .u32 0, .int .u32 0, .int .u32 0, .int .u32 0, .int .u32 0, .int .u32 0, .int .u32 0, .int .u32 0, .int .u32 0, .int .u32 0, .int .u32 0, .int .u32 0, .int .u32 0, .int .u32 0, .int .u32 0, .int .u32 0, .int .u32 0, .int .u32 0, .int .u32 0, .int .u32 0, .int .u32 0, .int .u32 0, .int .u32 0, .int .u32 0, .int .u32 0, .int .u32 0, .int .u32 0, .int .u32 0, .int .u32 0, .int .u32 0, .int .u32 0, .int .u32 0, .int .u32 0, .int .u32 0, .int .u32 0, .int .u32 0, .int .u32 0, .int .u32 0, .int .u32 0] 143)).alloc (.cells #[.int .u32 0, .int .u32 0, .int .u32 0, .int .u32 0, .int .u32 0, .int .u32 0, .int .u32 0, .int .u32 0, .int .u32 0, .int .u32 0, .int .u32 0, .int .u32 0, .int .u32 0, .int .u32 0, .int .u32 0, .int .u32 0, .int .u32 0, .int .u32 0, .int .u32 0, .int .u32 0, .int .u32 0, .int .u32 0, .int .u32 0, .int .u32 0, .int .u32 0, .int .u32 0, .int .u32 0, .int .u32 0, .int .u32 0, .int .u32 0, .int .u32 0, .int .u32 0, .int .u32 0, .int .u32 0, .int .u32 0, .int .u32 0, .int .u32 0, .int .u32 0, .int .u32 0, .int .u32 0, .int .u32 0, .int .u32 0, .int .u32 0, .int .u32 0, .int .u32 0, .int .u32 0, .int .u32 0, .int .u32 0, .int .u32 0, .int .u32 0, .int .u32 0, .int .u32 0, .int .u32 0, .int .u32 0, .int .u32 0, .int .u32 0, .int .u32 0, .int .u32 0, .int .u32 0, .int .u32 0, .int .u32 0, .int .u32 0, .int .u32 0, .int .u32 0] 143)) = w2 at *
  obtain ⟨L1, L2, L3⟩ := L
  obtain ⟨m, hm⟩ : ∃ m, m = msgX x := ⟨_, rfl⟩
  rw [wcl0 m] at L2
  have HM := Lib.hid hm
  have HRB := Lib.hid L1
  have HW := Lib.hid L2
  have HK := Lib.hid L3
  clear L1 L2 L3 hm
  generalize hgw : w.heap.size = rb at *
  obtain ⟨wb, hwb⟩ : ∃ wb, wb = rb + 1 := ⟨_, rfl⟩
  rw [← hwb] at HW ⊢
  have hwl : rb < wb := by omega
  clear hwb
  go_wp2
  go_loopg [8] 64 (fun gh v wx => ∃ i : Nat, i ≤ 64 ∧ v = .int .i64 (i : Int) ∧ gh = 64 - i ∧ Hid (Blk wx wb (wcl m i).toArray 143 ∧ Keep (fun g => g = wb) w2 wx))
  case atStart => exact ⟨0, by omega, rfl, rfl, HW.out, Keep.refl _ _⟩
  case round =>
    clear HW
    obtain ⟨i, hi, rfl, hg, HR⟩ := hrel
    have HGK := Lib.hid hg
    clear hg
    by_cases hlt : i < 64
    · by_cases h16 : i < 16
      · have i16 : (i : Int) < 16 := by omega
        have i64' : (i : Int) < 64 := by omega
        go_wp2
        go_loopg [13] 4 (fun gh v wx => ∃ k : Nat, k ≤ 4 ∧ v = .int .i64 (k : Int) ∧ gh = 4 - k ∧ Hid (Blk wx wb ((wcl m i).toArray.setIfInBounds i (.int .u32 (horn x i k))) 143 ∧ Keep (fun g => g = wb) w2 wx))
        case atStart => exact ⟨0, by omega, rfl, rfl, by show Blk _ _ ((wcl m i).toArray.setIfInBounds i (.int .u32 0)) _; rw [wcl_free m i hlt]; exact HR.out.1, HR.out.2⟩
        case round =>
          obtain ⟨k, hk, rfl, hg, HJ⟩ := hrel
          have HGJ := Lib.hid hg
          clear hg
          by_cases hk4 : k < 4
          · have k4 : (k : Int) < 4 := by omega
            have cw : wr.drew.cell? ⟨wb, i, none⟩ = some (.int .u32 (horn x i k)) := by
              rw [HJ.out.1.drew.cell, Array.getElem?_setIfInBounds, if_pos rfl, if_pos (by unfold wcl; rw [List.size_toArray, u32c_length]; exact hlt)]
            have fw := HJ.out.1.drew.free i
            have cb : wr.drew.cell? ⟨g, o + (4 * i + k), none⟩ = some (.int .u8 (x (4 * i + k))) := (HJ.out.2.cell (p := ⟨g, o + (4 * i + k), none⟩) (cell_lt (HC.out (4 * i + k) (by omega))) (by show ¬ g = wb; omega)).trans (HC.out (4 * i + k) (by omega))
            have hxr := HX.out (4 * i + k) (by omega)
            have hhr := horn_range x i HX.out h16 k (by omega)
            have hh3 : horn x i k < 16777216 := by
              have : (256 : Int) ^ k ≤ 16777216 := by
                rcases (by omega : k = 0 ∨ k = 1 ∨ k = 2 ∨ k = 3) with rfl | rfl | rfl | rfl <;> decide
              omega
            have HS := Lib.hid (show horn x i (k + 1) = horn x i k * 256 + x (4 * i + k) from rfl)
            have HFR := HJ.out.1
            generalize hV : horn x i k = V at *
            generalize x (4 * i + k) = y at *
            have HV := Lib.hid hV
            have a1 : IntKind.i64.wrap (4 * (i : Int)) = 4 * (i : Int) := by rw [IntKind.wrap_i64]; omega
            have a2 : IntKind.i64.wrap (4 * (i : Int) + (k : Int)) = 4 * (i : Int) + (k : Int) := by rw [IntKind.wrap_i64]; omega
            have a3 : 0 ≤ 4 * (i : Int) + (k : Int) := by omega
            have a4 : 4 * (i : Int) + (k : Int) < 64 := by omega
            have a5 : (4 * (i : Int) + (k : Int)).toNat = 4 * i + k := by omega
            have u1 : IntKind.u32.wrap (V * 256) = V * 256 := wraps_u32 _ (by omega) (by omega)
            have u2 : IntKind.u32.wrap y = y := wraps_u32 _ (by omega) (by omega)
            have u3 : IntKind.u32.wrap (V * 256 + y) = V * 256 + y := wraps_u32 _ (by omega) (by omega)
            have HBW := Lib.hid HFR
            clear hV HFR hxr hhr hh3
            go_upto_region 9 with fail
            refine wp_region_last 15 (fun w' => w' = wr.drew) (by kernel_rfl) rfl (fun hS => ?_)
            refine tkL 0 (v := ?_) rfl (by kernel_rfl) ⟨by rfl, ?_⟩ hS ?_
            rotate_left
            · intro w0 hs; subst hs; go_simp; try (with_reducible rfl)
            try simp only [Act.put, List.setIfInBounds_toArray, List.set_cons_zero, List.set_cons_succ]
            refine tkL 1 (v := ?_) rfl (by kernel_rfl) ⟨by rfl, ?_⟩ hS ?_
            rotate_left
            · intro w0 hs; subst hs; go_simp; try (with_reducible rfl)
            try simp only [Act.put, List.setIfInBounds_toArray, List.set_cons_zero, List.set_cons_succ]
            refine tkL 2 (v := ?_) rfl (by kernel_rfl) ⟨by rfl, ?_⟩ hS ?_
            rotate_left
            · intro w0 hs; subst hs; go_simp; try (with_reducible rfl)
            try simp only [Act.put, List.setIfInBounds_toArray, List.set_cons_zero, List.set_cons_succ]
            refine tkL 3 (v := ?_) rfl (by kernel_rfl) ⟨by rfl, ?_⟩ hS ?_
            rotate_left
            · intro w0 hs; subst hs; go_simp; try (with_reducible rfl)
            try simp only [Act.put, List.setIfInBounds_toArray, List.set_cons_zero, List.set_cons_succ]
            refine tkL 4 (v := ?_) rfl (by kernel_rfl) ⟨by rfl, ?_⟩ hS ?_
            rotate_left
            · intro w0 hs; subst hs; go_simp; try (with_reducible rfl)
            try simp only [Act.put, List.setIfInBounds_toArray, List.set_cons_zero, List.set_cons_succ]
            refine tkL 5 (v := ?_) rfl (by kernel_rfl) ⟨by rfl, ?_⟩ hS ?_
            rotate_left
            · intro w0 hs; subst hs; go_simp; try (with_reducible rfl)
            try simp only [Act.put, List.setIfInBounds_toArray, List.set_cons_zero, List.set_cons_succ]
            refine tkL 6 (v := ?_) rfl (by kernel_rfl) ⟨by rfl, ?_⟩ hS ?_
            rotate_left
            · intro w0 hs; subst hs; go_simp; try (with_reducible rfl)
            try simp only [Act.put, List.setIfInBounds_toArray, List.set_cons_zero, List.set_cons_succ]
            refine tkL 7 (v := ?_) rfl (by kernel_rfl) ⟨by rfl, ?_⟩ hS ?_
            rotate_left
            · intro w0 hs; subst hs; go_simp; try (with_reducible rfl)
            try simp only [Act.put, List.setIfInBounds_toArray, List.set_cons_zero, List.set_cons_succ]
            refine tkL 8 (v := ?_) rfl (by kernel_rfl) ⟨by rfl, ?_⟩ hS ?_
            rotate_left
            · intro w0 hs; subst hs; go_simp; try (with_reducible rfl)
            try simp only [Act.put, List.setIfInBounds_toArray, List.set_cons_zero, List.set_cons_succ]
            refine tkL 9 (v := ?_) rfl (by kernel_rfl) ⟨by rfl, ?_⟩ hS ?_
            rotate_left
            · intro w0 hs; subst hs; go_simp; try (with_reducible rfl)
            try simp only [Act.put, List.setIfInBounds_toArray, List.set_cons_zero, List.set_cons_succ]
            refine tkL 10 (v := ?_) rfl (by kernel_rfl) ⟨by rfl, ?_⟩ hS ?_
            rotate_left
            · intro w0 hs; subst hs; go_simp; try (with_reducible rfl)
            try simp only [Act.put, List.setIfInBounds_toArray, List.set_cons_zero, List.set_cons_succ]
            refine tkL 11 (v := ?_) rfl (by kernel_rfl) ⟨by rfl, ?_⟩ hS ?_
            rotate_left
            · intro w0 hs; subst hs; go_simp; try (with_reducible rfl)
            try simp only [Act.put, List.setIfInBounds_toArray, List.set_cons_zero, List.set_cons_succ]
            refine tkL 12 (v := ?_) rfl (by kernel_rfl) ⟨by rfl, ?_⟩ hS ?_
            rotate_left
            · intro w0 hs; subst hs; go_simp; try (with_reducible rfl)
            try simp only [Act.put, List.setIfInBounds_toArray, List.set_cons_zero, List.set_cons_succ]
            refine tkL 13 (v := ?_) rfl (by kernel_rfl) ⟨by rfl, ?_⟩ hS ?_
            rotate_left
            · intro w0 hs; subst hs; go_simp; try (with_reducible rfl)
            try simp only [Act.put, List.setIfInBounds_toArray, List.set_cons_zero, List.set_cons_succ]
            refine tkL 14 (v := ?_) rfl (by kernel_rfl) ⟨by rfl, ?_⟩ hS ?_
            rotate_left
            · intro w0 hs; subst hs; go_simp; try (with_reducible rfl)
            try simp only [Act.put, List.setIfInBounds_toArray, List.set_cons_zero, List.set_cons_succ]
            refine wpAnyL_one (i := 15) (oi := ⟨_, _, _, _, _, _⟩) rfl (by kernel_rfl) (fun K hK => ?_)
            rw [if_pos (by rfl)]
            clear hS
            go_simp
            refine hK.out _ _ (.inl rfl) ?_
            clear hK
            try simp only [Act.put, List.setIfInBounds_toArray, List.set_cons_zero, List.set_cons_succ]
            refine wpAnyL_done (by kernel_rfl) ?_ _
            go_wp2
            go_roundg (4 - (k + 1))
            case measure => rw [HGJ.out]; omega
            case rel =>
              refine ⟨k + 1, hk4, rfl, rfl, ?_, HJ.out.2.trans ((((Keep.refl (fun g => g = wb) wr).drew).set (p := ⟨wb, i, none⟩) (.inl rfl) _))⟩
              have := HBW.out.drew.set i (.int .u32 (V * 256 + y))
              rw [HS.out]
              rw [set_set] at this
              exact this
          · obtain rfl : k = 4 := by omega
            go_wp2
            go_roundg (64 - (i + 1))
            case measure => rw [HGK.out]; omega
            case rel =>
              refine ⟨i + 1, hlt, rfl, rfl, ?_, HJ.out.2⟩
              have := HJ.out.1
              rw [horn_four x i HX.out h16, ← HM.out, ← shw_lo m i h16, wcl_set m i hlt] at this
              exact this
      · have i16 : ¬ (i : Int) < 16 := by omega
        have i16' : decide ((i : Int) < 16) = false := decide_eq_false i16
        have i64' : (i : Int) < 64 := by omega
        have a2 : IntKind.i64.wrap ((i : Int) - 2) = (i : Int) - 2 := by rw [IntKind.wrap_i64]; omega
        have t2 : ((i : Int) - 2).toNat = i - 2 := by omega
        have b2 : 0 ≤ (i : Int) - 2 := by omega
        have d2 : (i : Int) - 2 < 64 := by omega
        have e2 : (2 : Int) ≤ (i : Int) := by omega
        have c2 : wr.cell? ⟨wb, i - 2, none⟩ = some (.int .u32 (iv (shw m (i - 2)))) := by
          rw [HR.out.1.cell, List.getElem?_toArray]; exact wcl_get m i (i - 2) (by omega) (by omega)
        have a7 : IntKind.i64.wrap ((i : Int) - 7) = (i : Int) - 7 := by rw [IntKind.wrap_i64]; omega
        have t7 : ((i : Int) - 7).toNat = i - 7 := by omega
        have b7 : 0 ≤ (i : Int) - 7 := by omega
        have d7 : (i : Int) - 7 < 64 := by omega
        have e7 : (7 : Int) ≤ (i : Int) := by omega
        have c7 : wr.cell? ⟨wb, i - 7, none⟩ = some (.int .u32 (iv (shw m (i - 7)))) := by
          rw [HR.out.1.cell, List.getElem?_toArray]; exact wcl_get m i (i - 7) (by omega) (by omega)
        have a15 : IntKind.i64.wrap ((i : Int) - 15) = (i : Int) - 15 := by rw [IntKind.wrap_i64]; omega
        have t15 : ((i : Int) - 15).toNat = i - 15 := by omega
        have b15 : 0 ≤ (i : Int) - 15 := by omega
        have d15 : (i : Int) - 15 < 64 := by omega
        have e15 : (15 : Int) ≤ (i : Int) := by omega
        have c15 : wr.cell? ⟨wb, i - 15, none⟩ = some (.int .u32 (iv (shw m (i - 15)))) := by
          rw [HR.out.1.cell, List.getElem?_toArray]; exact wcl_get m i (i - 15) (by omega) (by omega)
        have a16 : IntKind.i64.wrap ((i : Int) - 16) = (i : Int) - 16 := by rw [IntKind.wrap_i64]; omega
        have t16 : ((i : Int) - 16).toNat = i - 16 := by omega
        have b16 : 0 ≤ (i : Int) - 16 := by omega
        have d16 : (i : Int) - 16 < 64 := by omega
        have e16 : (16 : Int) ≤ (i : Int) := by omega
        have c16 : wr.cell? ⟨wb, i - 16, none⟩ = some (.int .u32 (iv (shw m (i - 16)))) := by
          rw [HR.out.1.cell, List.getElem?_toArray]; exact wcl_get m i (i - 16) (by omega) (by omega)
        have HWJ := Lib.hid (shw_hi m i (by omega))
        have f0 := HR.out.1.free i
        have g0 : wr.cell? ⟨wb, i, none⟩ = some (.int .u32 (iv 0)) := by
          rw [HR.out.1.cell]; unfold wcl; rw [List.getElem?_toArray, u32c_get _ 64 i (by omega), if_neg (by omega)]
        generalize shw m (i - 2) = y2 at *
        generalize shw m (i - 7) = y7 at *
        generalize shw m (i - 15) = y15 at *
        generalize shw m (i - 16) = y16 at *
        have s10 : Op.shift .shr .u32 (iv y2) .u64 10 = pure (.int .u32 (iv (y2 >>> 10))) := shr32 y2 10 (by decide)
        have s3 : Op.shift .shr .u32 (iv y15) .u64 3 = pure (.int .u32 (iv (y15 >>> 3))) := shr32 y15 3 (by decide)
        have ADD := iv_add
        have XOR := iv_xor
        go_upto_region 11 with fail
        refine wp_region_held_drew (S := fun w' => w' = wr.drew) (by kernel_rfl) rfl (fun hS => ?_)
        refine tkH 0 (v := ?_) rfl (by kernel_rfl) ⟨by rfl, ?_⟩ hS ?_
        rotate_left
        · intro w0 hs; subst hs; go_simp; try (with_reducible rfl)
        try simp only [Act.put, List.setIfInBounds_toArray, List.set_cons_zero, List.set_cons_succ]
        refine tkH 1 (v := ?_) rfl (by kernel_rfl) ⟨by rfl, ?_⟩ hS ?_
        rotate_left
        · intro w0 hs; subst hs; go_simp; try (with_reducible rfl)
        try simp only [Act.put, List.setIfInBounds_toArray, List.set_cons_zero, List.set_cons_succ]
        refine tkH 2 (v := ?_) rfl (by kernel_rfl) ⟨by rfl, ?_⟩ hS ?_
        rotate_left
        · intro w0 hs; subst hs; go_simp; try (with_reducible rfl)
        try simp only [Act.put, List.setIfInBounds_toArray, List.set_cons_zero, List.set_cons_succ]
        refine tkH 3 (v := ?_) rfl (by kernel_rfl) ⟨by rfl, ?_⟩ hS ?_
        rotate_left
        · intro w0 hs; subst hs; go_simp; try (with_reducible rfl)
        try simp only [Act.put, List.setIfInBounds_toArray, List.set_cons_zero, List.set_cons_succ]
        refine tkH 4 (v := ?_) rfl (by kernel_rfl) ⟨by rfl, ?_⟩ hS ?_
        rotate_left
        · intro w0 hs; subst hs; go_simp; try (with_reducible rfl)
        try simp only [Act.put, List.setIfInBounds_toArray, List.set_cons_zero, List.set_cons_succ]
        refine tkH 5 (v := ?_) rfl (by kernel_rfl) ⟨by rfl, ?_⟩ hS ?_
        rotate_left
        · intro w0 hs; subst hs; go_simp; try (with_reducible rfl)
        try simp only [Act.put, List.setIfInBounds_toArray, List.set_cons_zero, List.set_cons_succ]
        refine tkH 6 (v := ?_) rfl (by kernel_rfl) ⟨by rfl, ?_⟩ hS ?_
        rotate_left
        · intro w0 hs; subst hs; go_simp; try (with_reducible rfl)
        try simp only [Act.put, List.setIfInBounds_toArray, List.set_cons_zero, List.set_cons_succ]
        refine tkH 7 (v := ?_) rfl (by kernel_rfl) ⟨by rfl, ?_⟩ hS ?_
        rotate_left
        · intro w0 hs; subst hs; go_simp; try (with_reducible rfl)
        try simp only [Act.put, List.setIfInBounds_toArray, List.set_cons_zero, List.set_cons_succ]
        refine tkH 8 (v := ?_) rfl (by kernel_rfl) ⟨by rfl, ?_⟩ hS ?_
        rotate_left
        · intro w0 hs; subst hs; go_simp; try (with_reducible rfl)
        try simp only [Act.put, List.setIfInBounds_toArray, List.set_cons_zero, List.set_cons_succ]
        refine tkH 9 (v := ?_) rfl (by kernel_rfl) ⟨by rfl, ?_⟩ hS ?_
        rotate_left
        · intro w0 hs; subst hs; go_simp; try (with_reducible rfl)
        try simp only [Act.put, List.setIfInBounds_toArray, List.set_cons_zero, List.set_cons_succ]
        refine wpAnyH_done (by kernel_rfl) ?_ _
        clear hS
        go_upto_region 12 with fail
        refine wp_region_last 29 (fun w' => w' = wr.drew.drew) (by kernel_rfl) rfl (fun hS => ?_)
        refine tkL 0 (v := ?_) rfl (by kernel_rfl) ⟨by rfl, ?_⟩ hS ?_
        rotate_left
        · intro w0 hs; subst hs; go_simp; try (with_reducible rfl)
        try simp only [Act.put, List.setIfInBounds_toArray, List.set_cons_zero, List.set_cons_succ]
        refine tkL 1 (v := ?_) rfl (by kernel_rfl) ⟨by rfl, ?_⟩ hS ?_
        rotate_left
        · intro w0 hs; subst hs; go_simp; try (with_reducible rfl)
        try simp only [Act.put, List.setIfInBounds_toArray, List.set_cons_zero, List.set_cons_succ]
        refine tkL 2 (v := ?_) rfl (by kernel_rfl) ⟨by rfl, ?_⟩ hS ?_
        rotate_left
        · intro w0 hs; subst hs; go_simp; try (with_reducible rfl)
        try simp only [Act.put, List.setIfInBounds_toArray, List.set_cons_zero, List.set_cons_succ]
        refine tkL 3 (v := ?_) rfl (by kernel_rfl) ⟨by rfl, ?_⟩ hS ?_
        rotate_left
        · intro w0 hs; subst hs; go_simp; try (with_reducible rfl)
        try simp only [Act.put, List.setIfInBounds_toArray, List.set_cons_zero, List.set_cons_succ]
        refine tkL 4 (v := ?_) rfl (by kernel_rfl) ⟨by rfl, ?_⟩ hS ?_
        rotate_left
        · intro w0 hs; subst hs; go_simp; try (with_reducible rfl)
        try simp only [Act.put, List.setIfInBounds_toArray, List.set_cons_zero, List.set_cons_succ]
        refine tkL 5 (v := ?_) rfl (by kernel_rfl) ⟨by rfl, ?_⟩ hS ?_
        rotate_left
        · intro w0 hs; subst hs; go_simp; try (with_reducible rfl)
        try simp only [Act.put, List.setIfInBounds_toArray, List.set_cons_zero, List.set_cons_succ]
        refine tkL 7 (v := ?_) rfl (by kernel_rfl) ⟨by rfl, ?_⟩ hS ?_
        rotate_left
        · intro w0 hs; subst hs; go_simp; try (with_reducible rfl)
        try simp only [Act.put, List.setIfInBounds_toArray, List.set_cons_zero, List.set_cons_succ]
        refine tkL 10 (v := ?_) rfl (by kernel_rfl) ⟨by rfl, ?_⟩ hS ?_
        rotate_left
        · intro w0 hs; subst hs; go_simp; try (with_reducible rfl)
        try simp only [Act.put, List.setIfInBounds_toArray, List.set_cons_zero, List.set_cons_succ]
        refine tkL 11 (v := ?_) rfl (by kernel_rfl) ⟨by rfl, ?_⟩ hS ?_
        rotate_left
        · intro w0 hs; subst hs; go_simp; try (with_reducible rfl)
        try simp only [Act.put, List.setIfInBounds_toArray, List.set_cons_zero, List.set_cons_succ]
        refine tkL 14 (v := ?_) rfl (by kernel_rfl) ⟨by rfl, ?_⟩ hS ?_
        rotate_left
        · intro w0 hs; subst hs; go_simp; try (with_reducible rfl)
        try simp only [Act.put, List.setIfInBounds_toArray, List.set_cons_zero, List.set_cons_succ]
        refine tkL 15 (v := ?_) rfl (by kernel_rfl) ⟨by rfl, ?_⟩ hS ?_
        rotate_left
        · intro w0 hs; subst hs; go_simp; try (with_reducible rfl)
        try simp only [Act.put, List.setIfInBounds_toArray, List.set_cons_zero, List.set_cons_succ]
        refine tkL 16 (v := ?_) rfl (by kernel_rfl) ⟨by rfl, ?_⟩ hS ?_
        rotate_left
        · intro w0 hs; subst hs; go_simp; try (with_reducible rfl)
        try simp only [Act.put, List.setIfInBounds_toArray, List.set_cons_zero, List.set_cons_succ]
        refine tkL 17 (v := ?_) rfl (by kernel_rfl) ⟨by rfl, ?_⟩ hS ?_
        rotate_left
        · intro w0 hs; subst hs; go_simp; try (with_reducible rfl)
        try simp only [Act.put, List.setIfInBounds_toArray, List.set_cons_zero, List.set_cons_succ]
        refine tkL 19 (v := ?_) rfl (by kernel_rfl) ⟨by rfl, ?_⟩ hS ?_
        rotate_left
        · intro w0 hs; subst hs; go_simp; try (with_reducible rfl)
        try simp only [Act.put, List.setIfInBounds_toArray, List.set_cons_zero, List.set_cons_succ]
        refine tkL 21 (v := ?_) rfl (by kernel_rfl) ⟨by rfl, ?_⟩ hS ?_
        rotate_left
        · intro w0 hs; subst hs; go_simp; try (with_reducible rfl)
        try simp only [Act.put, List.setIfInBounds_toArray, List.set_cons_zero, List.set_cons_succ]
        refine tkL 24 (v := ?_) rfl (by kernel_rfl) ⟨by rfl, ?_⟩ hS ?_
        rotate_left
        · intro w0 hs; subst hs; go_simp; try (with_reducible rfl)
        try simp only [Act.put, List.setIfInBounds_toArray, List.set_cons_zero, List.set_cons_succ]
        refine tkL 25 (v := ?_) rfl (by kernel_rfl) ⟨by rfl, ?_⟩ hS ?_
        rotate_left
        · intro w0 hs; subst hs; go_simp; try (with_reducible rfl)
        try simp only [Act.put, List.setIfInBounds_toArray, List.set_cons_zero, List.set_cons_succ]
        refine wpAnyL_one (i := 6) (oi := ⟨_, _, _, _, _, _⟩) rfl (by kernel_rfl) (fun K hK => ?_)
        rw [if_pos (by rfl)]
        go_step
        refine (turned y15 7 (by decide) _).mono ?_
        rintro e v1 ⟨rfl, rfl⟩
        simp only []
        have hS' := hS
        refine hK.out _ _ (.inr hS') ?_
        clear hS hK
        have hS := hS'; clear hS'
        try simp only [Act.put, List.setIfInBounds_toArray, List.set_cons_zero, List.set_cons_succ]
        refine wpAnyL_one (i := 8) (oi := ⟨_, _, _, _, _, _⟩) rfl (by kernel_rfl) (fun K hK => ?_)
        rw [if_pos (by rfl)]
        go_step
        refine (turned y15 18 (by decide) _).mono ?_
        rintro e v2 ⟨rfl, rfl⟩
        simp only []
        have hS' := hS
        refine hK.out _ _ (.inr hS') ?_
        clear hS hK
        have hS := hS'; clear hS'
        try simp only [Act.put, List.setIfInBounds_toArray, List.set_cons_zero, List.set_cons_succ]
        refine tkL 9 (v := ?_) rfl (by kernel_rfl) ⟨by rfl, ?_⟩ hS ?_
        rotate_left
        · intro w0 hs; subst hs; go_simp; try (with_reducible rfl)
        try simp only [Act.put, List.setIfInBounds_toArray, List.set_cons_zero, List.set_cons_succ]
        refine tkL 12 (v := ?_) rfl (by kernel_rfl) ⟨by rfl, ?_⟩ hS ?_
        rotate_left
        · intro w0 hs; subst hs; go_simp; try (with_reducible rfl)
        try simp only [Act.put, List.setIfInBounds_toArray, List.set_cons_zero, List.set_cons_succ]
        refine tkL 13 (v := ?_) rfl (by kernel_rfl) ⟨by rfl, ?_⟩ hS ?_
        rotate_left
        · intro w0 hs; subst hs; go_simp; try (with_reducible rfl)
        try simp only [Act.put, List.setIfInBounds_toArray, List.set_cons_zero, List.set_cons_succ]
        refine tkL 18 (v := ?_) rfl (by kernel_rfl) ⟨by rfl, ?_⟩ hS ?_
        rotate_left
        · intro w0 hs; subst hs; go_simp; try (with_reducible rfl)
        try simp only [Act.put, List.setIfInBounds_toArray, List.set_cons_zero, List.set_cons_succ]
        refine wpAnyL_one (i := 20) (oi := ⟨_, _, _, _, _, _⟩) rfl (by kernel_rfl) (fun K hK => ?_)
        rw [if_pos (by rfl)]
        go_step
        refine (turned y2 17 (by decide) _).mono ?_
        rintro e v3 ⟨rfl, rfl⟩
        simp only []
        have hS' := hS
        refine hK.out _ _ (.inr hS') ?_
        clear hS hK
        have hS := hS'; clear hS'
        try simp only [Act.put, List.setIfInBounds_toArray, List.set_cons_zero, List.set_cons_succ]
        refine wpAnyL_one (i := 22) (oi := ⟨_, _, _, _, _, _⟩) rfl (by kernel_rfl) (fun K hK => ?_)
        rw [if_pos (by rfl)]
        go_step
        refine (turned y2 19 (by decide) _).mono ?_
        rintro e v4 ⟨rfl, rfl⟩
        simp only []
        have hS' := hS
        refine hK.out _ _ (.inr hS') ?_
        clear hS hK
        have hS := hS'; clear hS'
        try simp only [Act.put, List.setIfInBounds_toArray, List.set_cons_zero, List.set_cons_succ]
        refine tkL 23 (v := ?_) rfl (by kernel_rfl) ⟨by rfl, ?_⟩ hS ?_
        rotate_left
        · intro w0 hs; subst hs; go_simp; try (with_reducible rfl)
        try simp only [Act.put, List.setIfInBounds_toArray, List.set_cons_zero, List.set_cons_succ]
        refine tkL 26 (v := ?_) rfl (by kernel_rfl) ⟨by rfl, ?_⟩ hS ?_
        rotate_left
        · intro w0 hs; subst hs; go_simp; try (with_reducible rfl)
        try simp only [Act.put, List.setIfInBounds_toArray, List.set_cons_zero, List.set_cons_succ]
        refine tkL 27 (v := ?_) rfl (by kernel_rfl) ⟨by rfl, ?_⟩ hS ?_
        rotate_left
        · intro w0 hs; subst hs; go_simp; try (with_reducible rfl)
        try simp only [Act.put, List.setIfInBounds_toArray, List.set_cons_zero, List.set_cons_succ]
        refine tkL 28 (v := ?_) rfl (by kernel_rfl) ⟨by rfl, ?_⟩ hS ?_
        rotate_left
        · intro w0 hs; subst hs; go_simp; try (with_reducible rfl)
        try simp only [Act.put, List.setIfInBounds_toArray, List.set_cons_zero, List.set_cons_succ]
        refine wpAnyL_one (i := 29) (oi := ⟨_, _, _, _, _, _⟩) rfl (by kernel_rfl) (fun K hK => ?_)
        rw [if_pos (by rfl)]
        clear hS
        go_simp
        refine hK.out _ _ (.inl rfl) ?_
        clear hK
        try simp only [Act.put, List.setIfInBounds_toArray, List.set_cons_zero, List.set_cons_succ]
        refine wpAnyL_done (by kernel_rfl) ?_ _
        go_wp2
        go_roundg (64 - (i + 1))
        case measure => rw [HGK.out]; omega
        case rel =>
          refine ⟨i + 1, hlt, rfl, rfl, ?_, HR.out.2.trans (((Keep.refl (fun g => g = wb) wr).set (p := ⟨wb, i, none⟩) (.inl rfl) _).drew.drew)⟩
          have := (HR.out.1.set i (.int .u32 (iv (shw m i)))).drew.drew
          rw [wcl_set m i hlt, HWJ.out] at this
          rw [show y16 + (ror y15 7 ^^^ ror y15 18 ^^^ y15 >>> 3) + y7 + (ror y2 17 ^^^ ror y2 19 ^^^ y2 >>> 10) = sg1 y2 + y7 + sg0 y15 + y16 from by unfold sg0 sg1; ac_rfl]
          exact this
    · obtain rfl : i = 64 := by omega
      have bw := HR.out.1
      have br := HR.out.2.blk HRB.out (by omega)
      have UI : (Tryz.prog.info? 143).map (·.size) = some (wcl m 64).toArray.size := by rw [List.size_toArray]; unfold wcl; rw [u32c_length]; kernel_rfl
      have one : (wcl m 64).toArray.all (·.oneCell') = true := by
        rw [Array.all_eq_true_iff_forall_mem]
        intro u hu
        exact u32c_one _ _ u (by simpa [wcl] using hu)
      have szz : (64 : Nat) = (wcl m 64).toArray.size := by rw [List.size_toArray]; unfold wcl; rw [u32c_length]
      replace UI := Lib.hid UI
      replace one := Lib.hid one
      replace szz := Lib.hid szz
      go_wp2_with (first | (refine wpl_load rfl 143 (.tmp 3) rfl rfl bw Tryz.underlying143 UI.out ?_) | (refine wpl_store rfl 143 (.tmp 2) (.tmp 70) rfl rfl rfl br szz.out UI.out one.out ?_))
      have bf := br.setAll (wcl m 64).toArray szz.out
      have b0 := HK.out
      have b1 := b0.trans (HR.out.2.below (by rw [← hgw]; exact b0.size) (fun g h => by rw [h]; omega))
      have b2 := below_setCells (B := rb) (g := rb) (Nat.le_refl _) (wcl m 64).toArray.toList 0 wr b1
      exact bodyPost_ret (v := .agg (wcl m 64).toArray) (results_blk Tryz.results109 _ _ rfl bf Tryz.underlying143 UI.out) rfl ⟨by rw [HM.out], by rw [hgw]; exact b2⟩
end Go.Proofs.YtbjbjgfjaopibaaGreatDoor
end

section
/- SHA-256, the document's: mix (under way). -/
namespace Go.Proofs.YtbjbjgfjaopibaaGreatDoor
open Go Go.RowKit
set_option linter.unusedSimpArgs false
set_option linter.unusedVariables false
set_option maxRecDepth 100000

theorem u32c_set (s : Nat → B32) (n i : Nat) (v : B32) (h : i < n) : (u32c s n).toArray.setIfInBounds i (.int .u32 (iv v)) = (u32c (fun k => if k = i then v else s k) n).toArray := by
  rw [List.setIfInBounds_toArray]
  congr 1
  apply List.ext_getElem?
  intro j
  rw [List.getElem?_set]
  by_cases hj : i = j
  · subst hj; rw [if_pos rfl, if_pos (by rw [u32c_length]; exact h), u32c_get _ _ _ h, if_pos rfl]
  · rw [if_neg hj]
    by_cases hn : j < n
    · rw [u32c_get _ _ _ hn, u32c_get _ _ _ hn, if_neg (fun e => hj e.symm)]
    · rw [List.getElem?_eq_none (by rw [u32c_length]; omega), List.getElem?_eq_none (by rw [u32c_length]; omega)]
theorem u32c_ext {s t : Nat → B32} {n : Nat} (h : ∀ i, i < n → s i = t i) : u32c s n = u32c t n := by
  unfold u32c; exact List.map_congr_left fun i hi => by rw [h i (List.mem_range.1 hi)]
/-- the words, moved on down to k -/
def down (s : Nat → B32) (k i : Nat) : B32 := if k < i then s (i - 1) else s i
theorem down_step (s : Nat → B32) (k : Nat) (hk : 0 < k) : ∀ i, (if i = k then s (k - 1) else down s k i) = down s (k - 1) i := by
  intro i
  unfold down
  by_cases h : i = k
  · subst h; rw [if_pos rfl, if_pos (by omega)]
  · rw [if_neg h]
    by_cases h2 : k < i
    · rw [if_pos h2, if_pos (by omega)]
    · rw [if_neg h2, if_neg (by omega)]
theorem iv_not (a : B32) : bits .xor .u32 (if IntKind.u32.signed = true then -1 else IntKind.u32.max) (iv a) = iv (~~~a) := by
  show IntKind.u32.wrap ((BitVec.ofInt 32 4294967295 ^^^ BitVec.ofInt 32 (iv a)).toNat : Int) = _
  rw [ofInt_iv, show BitVec.ofInt 32 4294967295 = BitVec.allOnes 32 from by decide, BitVec.allOnes_xor]
  exact iv_wrap _
theorem storeSt (s : Nat → B32) (w : World) : (storeCells ⟨w.heap.size, 0, none⟩ (u32c s 8)).run Tryz.prog (w.alloc (.cells #[.int .u32 0, .int .u32 0, .int .u32 0, .int .u32 0, .int .u32 0, .int .u32 0, .int .u32 0, .int .u32 0] 123)) = .ok () (w.alloc (.cells (u32c s 8).toArray 123)) := by
  have := store_new (P := Tryz.prog) w 123 #[.int .u32 0, .int .u32 0, .int .u32 0, .int .u32 0, .int .u32 0, .int .u32 0, .int .u32 0, .int .u32 0] (u32c s 8).toArray (by show _ = (u32c s 8).length; rw [u32c_length]; rfl) (by
    rw [Array.all_eq_true_iff_forall_mem]
    intro u hu
    exact u32c_one _ _ u (by simpa using hu))
  simpa using this
theorem storeW (s : Nat → B32) (w : World) : (storeCells ⟨w.heap.size, 0, none⟩ (u32c s 64)).run Tryz.prog (w.alloc (.cells #[.int .u32 0, .int .u32 0, .int .u32 0, .int .u32 0, .int .u32 0, .int .u32 0, .int .u32 0, .int .u32 0, .int .u32 0, .int .u32 0, .int .u32 0, .int .u32 0, .int .u32 0, .int .u32 0, .int .u32 0, .int .u32 0, .int .u32 0, .int .u32 0, .int .u32 0, .int .u32 0, .int .u32 0, .int .u32 0, .int .u32 0, .int .u32 0, .int .u32 0, .int .u32 0, .int .u32 0, .int .u32 0, .int .u32 0, .int .u32 0, .int .u32 0, .int .u32 0, .int .u32 0, .int .u32 0, .int .u32 0, .int .u32 0, .int .u32 0, .int .u32 0, .int .u32 0, .int .u32 0, .int .u32 0, .int .u32 0, .int .u32 0, .int .u32 0, .int .u32 0, .int .u32 0, .int .u32 0, .int .u32 0, .int .u32 0, .int .u32 0, .int .u32 0, .int .u32 0, .int .u32 0, .int .u32 0, .int .u32 0, .int .u32 0, .int .u32 0, .int .u32 0, .int .u32 0, .int .u32 0, .int .u32 0, .int .u32 0, .int .u32 0, .int .u32 0] 143)) = .ok () (w.alloc (.cells (u32c s 64).toArray 143)) := by
  have := store_new (P := Tryz.prog) w 143 #[.int .u32 0, .int .u32 0, .int .u32 0, .int .u32 0, .int .u32 0, .int .u32 0, .int .u32 0, .int .u32 0, .int .u32 0, .int .u32 0, .int .u32 0, .int .u32 0, .int .u32 0, .int .u32 0, .int .u32 0, .int .u32 0, .int .u32 0, .int .u32 0, .int .u32 0, .int .u32 0, .int .u32 0, .int .u32 0, .int .u32 0, .int .u32 0, .int .u32 0, .int .u32 0, .int .u32 0, .int .u32 0, .int .u32 0, .int .u32 0, .int .u32 0, .int .u32 0, .int .u32 0, .int .u32 0, .int .u32 0, .int .u32 0, .int .u32 0, .int .u32 0, .int .u32 0, .int .u32 0, .int .u32 0, .int .u32 0, .int .u32 0, .int .u32 0, .int .u32 0, .int .u32 0, .int .u32 0, .int .u32 0, .int .u32 0, .int .u32 0, .int .u32 0, .int .u32 0, .int .u32 0, .int .u32 0, .int .u32 0, .int .u32 0, .int .u32 0, .int .u32 0, .int .u32 0, .int .u32 0, .int .u32 0, .int .u32 0, .int .u32 0, .int .u32 0] (u32c s 64).toArray (by show _ = (u32c s 64).length; rw [u32c_length]; rfl) (by
    rw [Array.all_eq_true_iff_forall_mem]
    intro u hu
    exact u32c_one _ _ u (by simpa using hu))
  simpa using this
end Go.Proofs.YtbjbjgfjaopibaaGreatDoor
end
