/- SipHash, the program's: RotateLeft64, round. -/
import Derived.Test.YtppcccocnmhbgaaLe
import Derived.Test.YtppcccocnmhbgaaBuild0
import Derived.Test.YtppcccocnmhbgaaHash
namespace Go.Proofs.Ytppcccocnmhbgaa
open Go Go.RowKit
set_option linter.unusedSimpArgs false
set_option linter.unusedVariables false
set_option maxRecDepth 100000

theorem shl64 (x : B64) (s : Nat) (h : s ≤ 64) : Op.shift .shl .u64 (lv x) .u64 (s : Int) = pure (.int .u64 (lv (x <<< s))) := by
  rw [shift_shl .u64 .u64 (lv x) (s : Int) (by omega) (by show (s : Int) ≤ 64; omega), Int.toNat_natCast, lv_shl]
theorem shr64 (x : B64) (s : Nat) (h : s ≤ 64) : Op.shift .shr .u64 (lv x) .u64 (s : Int) = pure (.int .u64 (lv (x >>> s))) := by
  rw [shift_shr .u64 .u64 (lv x) (s : Int) (by omega) (by show (s : Int) ≤ 64; omega), Int.toNat_natCast, lv_shr]
theorem rotl64 (x : B64) (n : Nat) (h0 : 0 < n) (h1 : n < 64) (w : World) :
    Calls Try.prog 106 #[.int .u64 (lv x), .int .i64 (n : Int)] w fun e w' => e = .returned (.int .u64 (lv (rol x n))) ∧ w = w' := by
  obtain ⟨s, hs⟩ : ∃ s, s + n = 64 := ⟨64 - n, by omega⟩
  have hm : bits .and .u64 (n : Int) 63 = (n : Int) := by
    have := u64_and_nat n 63 (by omega) (by decide)
    rw [show (63 : Int) = ((63 : Nat) : Int) from rfl, this, show n &&& 63 = n % 2 ^ 6 from Nat.and_two_pow_sub_one_eq_mod n 6, Nat.mod_eq_of_lt (by omega)]
  have hw0 : IntKind.u64.wrap (n : Int) = (n : Int) := IntWalk.u64_in _ (by omega)
  have hd : IntKind.u64.wrap (64 - (n : Int)) = (s : Int) := by simp [IntKind.wrap, IntKind.bits, IntKind.signed]; omega
  have hd2 : (64 : Int) - (n : Int) = (s : Int) := by omega
  have e1 := shl64 x n (by omega)
  have e2 := shr64 x s (by omega)
  have OR := lv_or
  have HE := Lib.hid (show (x <<< n) ||| (x >>> s) = rol x n from by rw [← rol_or x n h1, show 64 - n = s from by omega])
  clear h0 h1 hs
  go_enter Try.func106, Try.ntmps106
  go_wp2
  go_ret
  refine ⟨?_, rfl⟩
  show Ending.returned (.int .u64 (bits .or .u64 (IntKind.u64.wrap (lv x * 2 ^ n)) (lv x / 2 ^ s))) = _
  rw [lv_shl, lv_shr, lv_or, HE.out]
/-- four words, as cells -/
abbrev q64 (a b c d : B64) : Array Value := #[.int .u64 (lv a), .int .u64 (lv b), .int .u64 (lv c), .int .u64 (lv d)]
theorem sip_info (s : Sip) : (Try.prog.info? 128).map (·.size) = some s.cells.size := by kernel_rfl
theorem sip_size (s : Sip) : (#[.int .u64 0, .int .u64 0, .int .u64 0, .int .u64 0] : Array Value).size = s.cells.size := rfl
theorem sip_all (s : Sip) : s.cells.all (·.oneCell') = true := by simp [Sip.cells, Value.oneCell']
set_option maxHeartbeats 3200000 in
theorem pround (a b c d : B64) (w : World) :
    Calls Try.prog 92 #[.agg (q64 a b c d)] w fun e w' => e = .returned (.agg (sipRound ⟨a, b, c, d⟩).cells) ∧ Below w.heap.size w w' := by
  have L := two_blocks w (q64 a b c d) #[.int .u64 0, .int .u64 0, .int .u64 0, .int .u64 0] 128 128
  have hs2 : ((w.alloc (.cells (q64 a b c d) 128)).alloc (.cells #[.int .u64 0, .int .u64 0, .int .u64 0, .int .u64 0] 128)).heap.size = w.heap.size + 2 := by simp
  have HL := Lib.hid (And.intro L hs2)
  clear L hs2
  have ADD := lv_add
  have XOR := lv_xor
  go_enter Try.func92, Try.ntmps92
  go_upto_region 2 with fail
  generalize (w.alloc (.cells (q64 a b c d) 128)).alloc (.cells #[.int .u64 0, .int .u64 0, .int .u64 0, .int .u64 0] 128) = W at *
  generalize hgw : w.heap.size = vb at *
  have B := HL.out.1.1
  have K0 : Keep (fun g => g = vb) W W := Keep.refl _ _
  have cc := B.cell
  have ff := B.free
  have B2 : Blk ((W.setCell ⟨vb, 0, none⟩ (.int .u64 (lv (a + b)))).setCell ⟨vb, 2, none⟩ (.int .u64 (lv (c + d)))) vb (q64 (a + b) b (c + d) d) 128 := (B.set 0 _).set 2 _
  have K2 := (K0.set (p := ⟨vb, 0, none⟩) (.inl rfl) (.int .u64 (lv (a + b)))).set (p := ⟨vb, 2, none⟩) (.inl rfl) (.int .u64 (lv (c + d)))
  have HB2 := Lib.hid B2
  have HK2 := Lib.hid K2
  clear B K0 B2 K2
  go_upto_region 4 with fail
  generalize (W.setCell ⟨vb, 0, none⟩ (.int .u64 (lv (a + b)))).setCell ⟨vb, 2, none⟩ (.int .u64 (lv (c + d))) = W2 at HB2 HK2 ⊢
  clear cc ff
  have cc := HB2.out.cell
  have ff := HB2.out.free
  refine wp_region_last 8 (fun w' => w' = W2.drew) (by kernel_rfl) rfl (fun hS => ?_)
  refine wpAnyL_take (i := 0) (oi := ⟨_, _, _, _, _, _⟩) (v := ?_) rfl (by kernel_rfl) (by kernel_rfl) (by kernel_rfl) (by kernel_rfl) (fun _ _ _ h => h) (Or.inl ⟨by rfl, ?_⟩) hS ?_
  rotate_left
  · intro w0 hs; subst hs; go_simp; try (with_reducible rfl)
  try simp only [Act.put, List.setIfInBounds_toArray, List.set_cons_zero, List.set_cons_succ]
  refine wpAnyL_take (i := 1) (oi := ⟨_, _, _, _, _, _⟩) (v := ?_) rfl (by kernel_rfl) (by kernel_rfl) (by kernel_rfl) (by kernel_rfl) (fun _ _ _ h => h) (Or.inl ⟨by rfl, ?_⟩) hS ?_
  rotate_left
  · intro w0 hs; subst hs; go_simp; try (with_reducible rfl)
  try simp only [Act.put, List.setIfInBounds_toArray, List.set_cons_zero, List.set_cons_succ]
  refine wpAnyL_take (i := 2) (oi := ⟨_, _, _, _, _, _⟩) (v := ?_) rfl (by kernel_rfl) (by kernel_rfl) (by kernel_rfl) (by kernel_rfl) (fun _ _ _ h => h) (Or.inl ⟨by rfl, ?_⟩) hS ?_
  rotate_left
  · intro w0 hs; subst hs; go_simp; try (with_reducible rfl)
  try simp only [Act.put, List.setIfInBounds_toArray, List.set_cons_zero, List.set_cons_succ]
  refine wpAnyL_take (i := 4) (oi := ⟨_, _, _, _, _, _⟩) (v := ?_) rfl (by kernel_rfl) (by kernel_rfl) (by kernel_rfl) (by kernel_rfl) (fun _ _ _ h => h) (Or.inl ⟨by rfl, ?_⟩) hS ?_
  rotate_left
  · intro w0 hs; subst hs; go_simp; try (with_reducible rfl)
  try simp only [Act.put, List.setIfInBounds_toArray, List.set_cons_zero, List.set_cons_succ]
  refine wpAnyL_take (i := 5) (oi := ⟨_, _, _, _, _, _⟩) (v := ?_) rfl (by kernel_rfl) (by kernel_rfl) (by kernel_rfl) (by kernel_rfl) (fun _ _ _ h => h) (Or.inl ⟨by rfl, ?_⟩) hS ?_
  rotate_left
  · intro w0 hs; subst hs; go_simp; try (with_reducible rfl)
  try simp only [Act.put, List.setIfInBounds_toArray, List.set_cons_zero, List.set_cons_succ]
  refine wpAnyL_one (i := 3) (oi := ⟨_, _, _, _, _, _⟩) rfl (by kernel_rfl) (fun K hK => ?_)
  rw [if_pos (by rfl)]
  go_step
  refine (rotl64 b 13 (by decide) (by decide) _).mono ?_
  rintro e v1 ⟨rfl, rfl⟩
  simp only []
  have hS' := hS
  refine hK.out _ _ (.inr hS') ?_
  clear hS hK
  have hS := hS'; clear hS'
  try simp only [Act.put, List.setIfInBounds_toArray, List.set_cons_zero, List.set_cons_succ]
  refine wpAnyL_take (i := 6) (oi := ⟨_, _, _, _, _, _⟩) (v := ?_) rfl (by kernel_rfl) (by kernel_rfl) (by kernel_rfl) (by kernel_rfl) (fun _ _ _ h => h) (Or.inl ⟨by rfl, ?_⟩) hS ?_
  rotate_left
  · intro w0 hs; subst hs; go_simp; try (with_reducible rfl)
  try simp only [Act.put, List.setIfInBounds_toArray, List.set_cons_zero, List.set_cons_succ]
  refine wpAnyL_take (i := 7) (oi := ⟨_, _, _, _, _, _⟩) (v := ?_) rfl (by kernel_rfl) (by kernel_rfl) (by kernel_rfl) (by kernel_rfl) (fun _ _ _ h => h) (Or.inl ⟨by rfl, ?_⟩) hS ?_
  rotate_left
  · intro w0 hs; subst hs; go_simp; try (with_reducible rfl)
  try simp only [Act.put, List.setIfInBounds_toArray, List.set_cons_zero, List.set_cons_succ]
  refine wpAnyL_one (i := 8) (oi := ⟨_, _, _, _, _, _⟩) rfl (by kernel_rfl) (fun K hK => ?_)
  rw [if_pos (by rfl)]
  clear hS
  go_simp
  refine hK.out _ _ (.inl rfl) ?_
  clear hK
  try simp only [Act.put, List.setIfInBounds_toArray, List.set_cons_zero, List.set_cons_succ]
  refine wpAnyL_done (by kernel_rfl) ?_ _
  have B3 : Blk ((W2.setCell ⟨vb, 1, none⟩ (.int .u64 (lv (rol b 13 ^^^ (a + b))))).drew) vb (q64 (a + b) (rol b 13 ^^^ (a + b)) (c + d) d) 128 := (HB2.out.set 1 _).drew
  have K3 := (HK2.out.set (p := ⟨vb, 1, none⟩) (.inl rfl) (.int .u64 (lv (rol b 13 ^^^ (a + b))))).drew
  have HB3 := Lib.hid B3
  have HK3 := Lib.hid K3
  clear B3 K3
  go_upto_region 5 with fail
  generalize (W2.setCell ⟨vb, 1, none⟩ (.int .u64 (lv (rol b 13 ^^^ (a + b))))).drew = W3 at HB3 HK3 ⊢
  clear cc ff
  have cc := HB3.out.cell
  have ff := HB3.out.free
  refine wp_region_last 8 (fun w' => w' = W3.drew) (by kernel_rfl) rfl (fun hS => ?_)
  refine wpAnyL_take (i := 0) (oi := ⟨_, _, _, _, _, _⟩) (v := ?_) rfl (by kernel_rfl) (by kernel_rfl) (by kernel_rfl) (by kernel_rfl) (fun _ _ _ h => h) (Or.inl ⟨by rfl, ?_⟩) hS ?_
  rotate_left
  · intro w0 hs; subst hs; go_simp; try (with_reducible rfl)
  try simp only [Act.put, List.setIfInBounds_toArray, List.set_cons_zero, List.set_cons_succ]
  refine wpAnyL_take (i := 1) (oi := ⟨_, _, _, _, _, _⟩) (v := ?_) rfl (by kernel_rfl) (by kernel_rfl) (by kernel_rfl) (by kernel_rfl) (fun _ _ _ h => h) (Or.inl ⟨by rfl, ?_⟩) hS ?_
  rotate_left
  · intro w0 hs; subst hs; go_simp; try (with_reducible rfl)
  try simp only [Act.put, List.setIfInBounds_toArray, List.set_cons_zero, List.set_cons_succ]
  refine wpAnyL_take (i := 2) (oi := ⟨_, _, _, _, _, _⟩) (v := ?_) rfl (by kernel_rfl) (by kernel_rfl) (by kernel_rfl) (by kernel_rfl) (fun _ _ _ h => h) (Or.inl ⟨by rfl, ?_⟩) hS ?_
  rotate_left
  · intro w0 hs; subst hs; go_simp; try (with_reducible rfl)
  try simp only [Act.put, List.setIfInBounds_toArray, List.set_cons_zero, List.set_cons_succ]
  refine wpAnyL_take (i := 4) (oi := ⟨_, _, _, _, _, _⟩) (v := ?_) rfl (by kernel_rfl) (by kernel_rfl) (by kernel_rfl) (by kernel_rfl) (fun _ _ _ h => h) (Or.inl ⟨by rfl, ?_⟩) hS ?_
  rotate_left
  · intro w0 hs; subst hs; go_simp; try (with_reducible rfl)
  try simp only [Act.put, List.setIfInBounds_toArray, List.set_cons_zero, List.set_cons_succ]
  refine wpAnyL_take (i := 5) (oi := ⟨_, _, _, _, _, _⟩) (v := ?_) rfl (by kernel_rfl) (by kernel_rfl) (by kernel_rfl) (by kernel_rfl) (fun _ _ _ h => h) (Or.inl ⟨by rfl, ?_⟩) hS ?_
  rotate_left
  · intro w0 hs; subst hs; go_simp; try (with_reducible rfl)
  try simp only [Act.put, List.setIfInBounds_toArray, List.set_cons_zero, List.set_cons_succ]
  refine wpAnyL_one (i := 3) (oi := ⟨_, _, _, _, _, _⟩) rfl (by kernel_rfl) (fun K hK => ?_)
  rw [if_pos (by rfl)]
  go_step
  refine (rotl64 d 16 (by decide) (by decide) _).mono ?_
  rintro e v1 ⟨rfl, rfl⟩
  simp only []
  have hS' := hS
  refine hK.out _ _ (.inr hS') ?_
  clear hS hK
  have hS := hS'; clear hS'
  try simp only [Act.put, List.setIfInBounds_toArray, List.set_cons_zero, List.set_cons_succ]
  refine wpAnyL_take (i := 6) (oi := ⟨_, _, _, _, _, _⟩) (v := ?_) rfl (by kernel_rfl) (by kernel_rfl) (by kernel_rfl) (by kernel_rfl) (fun _ _ _ h => h) (Or.inl ⟨by rfl, ?_⟩) hS ?_
  rotate_left
  · intro w0 hs; subst hs; go_simp; try (with_reducible rfl)
  try simp only [Act.put, List.setIfInBounds_toArray, List.set_cons_zero, List.set_cons_succ]
  refine wpAnyL_take (i := 7) (oi := ⟨_, _, _, _, _, _⟩) (v := ?_) rfl (by kernel_rfl) (by kernel_rfl) (by kernel_rfl) (by kernel_rfl) (fun _ _ _ h => h) (Or.inl ⟨by rfl, ?_⟩) hS ?_
  rotate_left
  · intro w0 hs; subst hs; go_simp; try (with_reducible rfl)
  try simp only [Act.put, List.setIfInBounds_toArray, List.set_cons_zero, List.set_cons_succ]
  refine wpAnyL_one (i := 8) (oi := ⟨_, _, _, _, _, _⟩) rfl (by kernel_rfl) (fun K hK => ?_)
  rw [if_pos (by rfl)]
  clear hS
  go_simp
  refine hK.out _ _ (.inl rfl) ?_
  clear hK
  try simp only [Act.put, List.setIfInBounds_toArray, List.set_cons_zero, List.set_cons_succ]
  refine wpAnyL_done (by kernel_rfl) ?_ _
  have B4 : Blk ((W3.setCell ⟨vb, 3, none⟩ (.int .u64 (lv (rol d 16 ^^^ (c + d))))).drew) vb (q64 (a + b) (rol b 13 ^^^ (a + b)) (c + d) (rol d 16 ^^^ (c + d))) 128 := (HB3.out.set 3 _).drew
  have K4 := (HK3.out.set (p := ⟨vb, 3, none⟩) (.inl rfl) (.int .u64 (lv (rol d 16 ^^^ (c + d))))).drew
  have HB4 := Lib.hid B4
  have HK4 := Lib.hid K4
  clear B4 K4
  go_upto_region 6 with fail
  generalize (W3.setCell ⟨vb, 3, none⟩ (.int .u64 (lv (rol d 16 ^^^ (c + d))))).drew = W4 at HB4 HK4 ⊢
  clear cc ff
  have cc := HB4.out.cell
  have ff := HB4.out.free
  refine wp_region_last 8 (fun w' => w' = W4.drew) (by kernel_rfl) rfl (fun hS => ?_)
  refine wpAnyL_take (i := 0) (oi := ⟨_, _, _, _, _, _⟩) (v := ?_) rfl (by kernel_rfl) (by kernel_rfl) (by kernel_rfl) (by kernel_rfl) (fun _ _ _ h => h) (Or.inl ⟨by rfl, ?_⟩) hS ?_
  rotate_left
  · intro w0 hs; subst hs; go_simp; try (with_reducible rfl)
  try simp only [Act.put, List.setIfInBounds_toArray, List.set_cons_zero, List.set_cons_succ]
  refine wpAnyL_take (i := 1) (oi := ⟨_, _, _, _, _, _⟩) (v := ?_) rfl (by kernel_rfl) (by kernel_rfl) (by kernel_rfl) (by kernel_rfl) (fun _ _ _ h => h) (Or.inl ⟨by rfl, ?_⟩) hS ?_
  rotate_left
  · intro w0 hs; subst hs; go_simp; try (with_reducible rfl)
  try simp only [Act.put, List.setIfInBounds_toArray, List.set_cons_zero, List.set_cons_succ]
  refine wpAnyL_take (i := 2) (oi := ⟨_, _, _, _, _, _⟩) (v := ?_) rfl (by kernel_rfl) (by kernel_rfl) (by kernel_rfl) (by kernel_rfl) (fun _ _ _ h => h) (Or.inl ⟨by rfl, ?_⟩) hS ?_
  rotate_left
  · intro w0 hs; subst hs; go_simp; try (with_reducible rfl)
  try simp only [Act.put, List.setIfInBounds_toArray, List.set_cons_zero, List.set_cons_succ]
  refine wpAnyL_take (i := 4) (oi := ⟨_, _, _, _, _, _⟩) (v := ?_) rfl (by kernel_rfl) (by kernel_rfl) (by kernel_rfl) (by kernel_rfl) (fun _ _ _ h => h) (Or.inl ⟨by rfl, ?_⟩) hS ?_
  rotate_left
  · intro w0 hs; subst hs; go_simp; try (with_reducible rfl)
  try simp only [Act.put, List.setIfInBounds_toArray, List.set_cons_zero, List.set_cons_succ]
  refine wpAnyL_take (i := 5) (oi := ⟨_, _, _, _, _, _⟩) (v := ?_) rfl (by kernel_rfl) (by kernel_rfl) (by kernel_rfl) (by kernel_rfl) (fun _ _ _ h => h) (Or.inl ⟨by rfl, ?_⟩) hS ?_
  rotate_left
  · intro w0 hs; subst hs; go_simp; try (with_reducible rfl)
  try simp only [Act.put, List.setIfInBounds_toArray, List.set_cons_zero, List.set_cons_succ]
  refine wpAnyL_one (i := 3) (oi := ⟨_, _, _, _, _, _⟩) rfl (by kernel_rfl) (fun K hK => ?_)
  rw [if_pos (by rfl)]
  go_step
  refine (rotl64 (a + b) 32 (by decide) (by decide) _).mono ?_
  rintro e v1 ⟨rfl, rfl⟩
  simp only []
  have hS' := hS
  refine hK.out _ _ (.inr hS') ?_
  clear hS hK
  have hS := hS'; clear hS'
  try simp only [Act.put, List.setIfInBounds_toArray, List.set_cons_zero, List.set_cons_succ]
  refine wpAnyL_take (i := 6) (oi := ⟨_, _, _, _, _, _⟩) (v := ?_) rfl (by kernel_rfl) (by kernel_rfl) (by kernel_rfl) (by kernel_rfl) (fun _ _ _ h => h) (Or.inl ⟨by rfl, ?_⟩) hS ?_
  rotate_left
  · intro w0 hs; subst hs; go_simp; try (with_reducible rfl)
  try simp only [Act.put, List.setIfInBounds_toArray, List.set_cons_zero, List.set_cons_succ]
  refine wpAnyL_take (i := 7) (oi := ⟨_, _, _, _, _, _⟩) (v := ?_) rfl (by kernel_rfl) (by kernel_rfl) (by kernel_rfl) (by kernel_rfl) (fun _ _ _ h => h) (Or.inl ⟨by rfl, ?_⟩) hS ?_
  rotate_left
  · intro w0 hs; subst hs; go_simp; try (with_reducible rfl)
  try simp only [Act.put, List.setIfInBounds_toArray, List.set_cons_zero, List.set_cons_succ]
  refine wpAnyL_one (i := 8) (oi := ⟨_, _, _, _, _, _⟩) rfl (by kernel_rfl) (fun K hK => ?_)
  rw [if_pos (by rfl)]
  clear hS
  go_simp
  refine hK.out _ _ (.inl rfl) ?_
  clear hK
  try simp only [Act.put, List.setIfInBounds_toArray, List.set_cons_zero, List.set_cons_succ]
  refine wpAnyL_done (by kernel_rfl) ?_ _
  have B5 : Blk ((W4.setCell ⟨vb, 0, none⟩ (.int .u64 (lv (rol (a + b) 32 + (rol d 16 ^^^ (c + d)))))).drew) vb (q64 (rol (a + b) 32 + (rol d 16 ^^^ (c + d))) (rol b 13 ^^^ (a + b)) (c + d) (rol d 16 ^^^ (c + d))) 128 := (HB4.out.set 0 _).drew
  have K5 := (HK4.out.set (p := ⟨vb, 0, none⟩) (.inl rfl) (.int .u64 (lv (rol (a + b) 32 + (rol d 16 ^^^ (c + d)))))).drew
  have HB5 := Lib.hid B5
  have HK5 := Lib.hid K5
  clear B5 K5
  go_upto_region 7 with fail
  generalize (W4.setCell ⟨vb, 0, none⟩ (.int .u64 (lv (rol (a + b) 32 + (rol d 16 ^^^ (c + d)))))).drew = W5 at HB5 HK5 ⊢
  clear cc ff
  have cc := HB5.out.cell
  have ff := HB5.out.free
  have B6 : Blk ((W5.setCell ⟨vb, 2, none⟩ (.int .u64 (lv ((c + d) + (rol b 13 ^^^ (a + b))))))) vb (q64 (rol (a + b) 32 + (rol d 16 ^^^ (c + d))) (rol b 13 ^^^ (a + b)) ((c + d) + (rol b 13 ^^^ (a + b))) (rol d 16 ^^^ (c + d))) 128 := (HB5.out.set 2 _)
  have K6 := (HK5.out.set (p := ⟨vb, 2, none⟩) (.inl rfl) (.int .u64 (lv ((c + d) + (rol b 13 ^^^ (a + b))))))
  have HB6 := Lib.hid B6
  have HK6 := Lib.hid K6
  clear B6 K6
  go_upto_region 8 with fail
  generalize (W5.setCell ⟨vb, 2, none⟩ (.int .u64 (lv ((c + d) + (rol b 13 ^^^ (a + b)))))) = W6 at HB6 HK6 ⊢
  clear cc ff
  have cc := HB6.out.cell
  have ff := HB6.out.free
  refine wp_region_last 8 (fun w' => w' = W6.drew) (by kernel_rfl) rfl (fun hS => ?_)
  refine wpAnyL_take (i := 0) (oi := ⟨_, _, _, _, _, _⟩) (v := ?_) rfl (by kernel_rfl) (by kernel_rfl) (by kernel_rfl) (by kernel_rfl) (fun _ _ _ h => h) (Or.inl ⟨by rfl, ?_⟩) hS ?_
  rotate_left
  · intro w0 hs; subst hs; go_simp; try (with_reducible rfl)
  try simp only [Act.put, List.setIfInBounds_toArray, List.set_cons_zero, List.set_cons_succ]
  refine wpAnyL_take (i := 1) (oi := ⟨_, _, _, _, _, _⟩) (v := ?_) rfl (by kernel_rfl) (by kernel_rfl) (by kernel_rfl) (by kernel_rfl) (fun _ _ _ h => h) (Or.inl ⟨by rfl, ?_⟩) hS ?_
  rotate_left
  · intro w0 hs; subst hs; go_simp; try (with_reducible rfl)
  try simp only [Act.put, List.setIfInBounds_toArray, List.set_cons_zero, List.set_cons_succ]
  refine wpAnyL_take (i := 2) (oi := ⟨_, _, _, _, _, _⟩) (v := ?_) rfl (by kernel_rfl) (by kernel_rfl) (by kernel_rfl) (by kernel_rfl) (fun _ _ _ h => h) (Or.inl ⟨by rfl, ?_⟩) hS ?_
  rotate_left
  · intro w0 hs; subst hs; go_simp; try (with_reducible rfl)
  try simp only [Act.put, List.setIfInBounds_toArray, List.set_cons_zero, List.set_cons_succ]
  refine wpAnyL_take (i := 4) (oi := ⟨_, _, _, _, _, _⟩) (v := ?_) rfl (by kernel_rfl) (by kernel_rfl) (by kernel_rfl) (by kernel_rfl) (fun _ _ _ h => h) (Or.inl ⟨by rfl, ?_⟩) hS ?_
  rotate_left
  · intro w0 hs; subst hs; go_simp; try (with_reducible rfl)
  try simp only [Act.put, List.setIfInBounds_toArray, List.set_cons_zero, List.set_cons_succ]
  refine wpAnyL_take (i := 5) (oi := ⟨_, _, _, _, _, _⟩) (v := ?_) rfl (by kernel_rfl) (by kernel_rfl) (by kernel_rfl) (by kernel_rfl) (fun _ _ _ h => h) (Or.inl ⟨by rfl, ?_⟩) hS ?_
  rotate_left
  · intro w0 hs; subst hs; go_simp; try (with_reducible rfl)
  try simp only [Act.put, List.setIfInBounds_toArray, List.set_cons_zero, List.set_cons_succ]
  refine wpAnyL_one (i := 3) (oi := ⟨_, _, _, _, _, _⟩) rfl (by kernel_rfl) (fun K hK => ?_)
  rw [if_pos (by rfl)]
  go_step
  refine (rotl64 (rol d 16 ^^^ (c + d)) 21 (by decide) (by decide) _).mono ?_
  rintro e v1 ⟨rfl, rfl⟩
  simp only []
  have hS' := hS
  refine hK.out _ _ (.inr hS') ?_
  clear hS hK
  have hS := hS'; clear hS'
  try simp only [Act.put, List.setIfInBounds_toArray, List.set_cons_zero, List.set_cons_succ]
  refine wpAnyL_take (i := 6) (oi := ⟨_, _, _, _, _, _⟩) (v := ?_) rfl (by kernel_rfl) (by kernel_rfl) (by kernel_rfl) (by kernel_rfl) (fun _ _ _ h => h) (Or.inl ⟨by rfl, ?_⟩) hS ?_
  rotate_left
  · intro w0 hs; subst hs; go_simp; try (with_reducible rfl)
  try simp only [Act.put, List.setIfInBounds_toArray, List.set_cons_zero, List.set_cons_succ]
  refine wpAnyL_take (i := 7) (oi := ⟨_, _, _, _, _, _⟩) (v := ?_) rfl (by kernel_rfl) (by kernel_rfl) (by kernel_rfl) (by kernel_rfl) (fun _ _ _ h => h) (Or.inl ⟨by rfl, ?_⟩) hS ?_
  rotate_left
  · intro w0 hs; subst hs; go_simp; try (with_reducible rfl)
  try simp only [Act.put, List.setIfInBounds_toArray, List.set_cons_zero, List.set_cons_succ]
  refine wpAnyL_one (i := 8) (oi := ⟨_, _, _, _, _, _⟩) rfl (by kernel_rfl) (fun K hK => ?_)
  rw [if_pos (by rfl)]
  clear hS
  go_simp
  refine hK.out _ _ (.inl rfl) ?_
  clear hK
  try simp only [Act.put, List.setIfInBounds_toArray, List.set_cons_zero, List.set_cons_succ]
  refine wpAnyL_done (by kernel_rfl) ?_ _
  have B7 : Blk ((W6.setCell ⟨vb, 3, none⟩ (.int .u64 (lv (rol (rol d 16 ^^^ (c + d)) 21 ^^^ (rol (a + b) 32 + (rol d 16 ^^^ (c + d))))))).drew) vb (q64 (rol (a + b) 32 + (rol d 16 ^^^ (c + d))) (rol b 13 ^^^ (a + b)) ((c + d) + (rol b 13 ^^^ (a + b))) (rol (rol d 16 ^^^ (c + d)) 21 ^^^ (rol (a + b) 32 + (rol d 16 ^^^ (c + d))))) 128 := (HB6.out.set 3 _).drew
  have K7 := (HK6.out.set (p := ⟨vb, 3, none⟩) (.inl rfl) (.int .u64 (lv (rol (rol d 16 ^^^ (c + d)) 21 ^^^ (rol (a + b) 32 + (rol d 16 ^^^ (c + d))))))).drew
  have HB7 := Lib.hid B7
  have HK7 := Lib.hid K7
  clear B7 K7
  go_upto_region 9 with fail
  generalize (W6.setCell ⟨vb, 3, none⟩ (.int .u64 (lv (rol (rol d 16 ^^^ (c + d)) 21 ^^^ (rol (a + b) 32 + (rol d 16 ^^^ (c + d))))))).drew = W7 at HB7 HK7 ⊢
  clear cc ff
  have cc := HB7.out.cell
  have ff := HB7.out.free
  refine wp_region_last 8 (fun w' => w' = W7.drew) (by kernel_rfl) rfl (fun hS => ?_)
  refine wpAnyL_take (i := 0) (oi := ⟨_, _, _, _, _, _⟩) (v := ?_) rfl (by kernel_rfl) (by kernel_rfl) (by kernel_rfl) (by kernel_rfl) (fun _ _ _ h => h) (Or.inl ⟨by rfl, ?_⟩) hS ?_
  rotate_left
  · intro w0 hs; subst hs; go_simp; try (with_reducible rfl)
  try simp only [Act.put, List.setIfInBounds_toArray, List.set_cons_zero, List.set_cons_succ]
  refine wpAnyL_take (i := 1) (oi := ⟨_, _, _, _, _, _⟩) (v := ?_) rfl (by kernel_rfl) (by kernel_rfl) (by kernel_rfl) (by kernel_rfl) (fun _ _ _ h => h) (Or.inl ⟨by rfl, ?_⟩) hS ?_
  rotate_left
  · intro w0 hs; subst hs; go_simp; try (with_reducible rfl)
  try simp only [Act.put, List.setIfInBounds_toArray, List.set_cons_zero, List.set_cons_succ]
  refine wpAnyL_take (i := 2) (oi := ⟨_, _, _, _, _, _⟩) (v := ?_) rfl (by kernel_rfl) (by kernel_rfl) (by kernel_rfl) (by kernel_rfl) (fun _ _ _ h => h) (Or.inl ⟨by rfl, ?_⟩) hS ?_
  rotate_left
  · intro w0 hs; subst hs; go_simp; try (with_reducible rfl)
  try simp only [Act.put, List.setIfInBounds_toArray, List.set_cons_zero, List.set_cons_succ]
  refine wpAnyL_take (i := 4) (oi := ⟨_, _, _, _, _, _⟩) (v := ?_) rfl (by kernel_rfl) (by kernel_rfl) (by kernel_rfl) (by kernel_rfl) (fun _ _ _ h => h) (Or.inl ⟨by rfl, ?_⟩) hS ?_
  rotate_left
  · intro w0 hs; subst hs; go_simp; try (with_reducible rfl)
  try simp only [Act.put, List.setIfInBounds_toArray, List.set_cons_zero, List.set_cons_succ]
  refine wpAnyL_take (i := 5) (oi := ⟨_, _, _, _, _, _⟩) (v := ?_) rfl (by kernel_rfl) (by kernel_rfl) (by kernel_rfl) (by kernel_rfl) (fun _ _ _ h => h) (Or.inl ⟨by rfl, ?_⟩) hS ?_
  rotate_left
  · intro w0 hs; subst hs; go_simp; try (with_reducible rfl)
  try simp only [Act.put, List.setIfInBounds_toArray, List.set_cons_zero, List.set_cons_succ]
  refine wpAnyL_one (i := 3) (oi := ⟨_, _, _, _, _, _⟩) rfl (by kernel_rfl) (fun K hK => ?_)
  rw [if_pos (by rfl)]
  go_step
  refine (rotl64 (rol b 13 ^^^ (a + b)) 17 (by decide) (by decide) _).mono ?_
  rintro e v1 ⟨rfl, rfl⟩
  simp only []
  have hS' := hS
  refine hK.out _ _ (.inr hS') ?_
  clear hS hK
  have hS := hS'; clear hS'
  try simp only [Act.put, List.setIfInBounds_toArray, List.set_cons_zero, List.set_cons_succ]
  refine wpAnyL_take (i := 6) (oi := ⟨_, _, _, _, _, _⟩) (v := ?_) rfl (by kernel_rfl) (by kernel_rfl) (by kernel_rfl) (by kernel_rfl) (fun _ _ _ h => h) (Or.inl ⟨by rfl, ?_⟩) hS ?_
  rotate_left
  · intro w0 hs; subst hs; go_simp; try (with_reducible rfl)
  try simp only [Act.put, List.setIfInBounds_toArray, List.set_cons_zero, List.set_cons_succ]
  refine wpAnyL_take (i := 7) (oi := ⟨_, _, _, _, _, _⟩) (v := ?_) rfl (by kernel_rfl) (by kernel_rfl) (by kernel_rfl) (by kernel_rfl) (fun _ _ _ h => h) (Or.inl ⟨by rfl, ?_⟩) hS ?_
  rotate_left
  · intro w0 hs; subst hs; go_simp; try (with_reducible rfl)
  try simp only [Act.put, List.setIfInBounds_toArray, List.set_cons_zero, List.set_cons_succ]
  refine wpAnyL_one (i := 8) (oi := ⟨_, _, _, _, _, _⟩) rfl (by kernel_rfl) (fun K hK => ?_)
  rw [if_pos (by rfl)]
  clear hS
  go_simp
  refine hK.out _ _ (.inl rfl) ?_
  clear hK
  try simp only [Act.put, List.setIfInBounds_toArray, List.set_cons_zero, List.set_cons_succ]
  refine wpAnyL_done (by kernel_rfl) ?_ _
  have B8 : Blk ((W7.setCell ⟨vb, 1, none⟩ (.int .u64 (lv (rol (rol b 13 ^^^ (a + b)) 17 ^^^ ((c + d) + (rol b 13 ^^^ (a + b))))))).drew) vb (q64 (rol (a + b) 32 + (rol d 16 ^^^ (c + d))) (rol (rol b 13 ^^^ (a + b)) 17 ^^^ ((c + d) + (rol b 13 ^^^ (a + b)))) ((c + d) + (rol b 13 ^^^ (a + b))) (rol (rol d 16 ^^^ (c + d)) 21 ^^^ (rol (a + b) 32 + (rol d 16 ^^^ (c + d))))) 128 := (HB7.out.set 1 _).drew
  have K8 := (HK7.out.set (p := ⟨vb, 1, none⟩) (.inl rfl) (.int .u64 (lv (rol (rol b 13 ^^^ (a + b)) 17 ^^^ ((c + d) + (rol b 13 ^^^ (a + b))))))).drew
  have HB8 := Lib.hid B8
  have HK8 := Lib.hid K8
  clear B8 K8
  go_upto_region 10 with fail
  generalize (W7.setCell ⟨vb, 1, none⟩ (.int .u64 (lv (rol (rol b 13 ^^^ (a + b)) 17 ^^^ ((c + d) + (rol b 13 ^^^ (a + b))))))).drew = W8 at HB8 HK8 ⊢
  clear cc ff
  have cc := HB8.out.cell
  have ff := HB8.out.free
  have PR := Lib.hid (rotl64 ((c + d) + (rol b 13 ^^^ (a + b))) 32 (by decide) (by decide) W8)
  go_wp2_with fail
  refine PR.out.mono ?_
  rintro e v ⟨rfl, hv⟩
  obtain rfl : W8 = v := hv
  have B9 : Blk ((W8.setCell ⟨vb, 2, none⟩ (.int .u64 (lv (rol ((c + d) + (rol b 13 ^^^ (a + b))) 32))))) vb (q64 (rol (a + b) 32 + (rol d 16 ^^^ (c + d))) (rol (rol b 13 ^^^ (a + b)) 17 ^^^ ((c + d) + (rol b 13 ^^^ (a + b)))) (rol ((c + d) + (rol b 13 ^^^ (a + b))) 32) (rol (rol d 16 ^^^ (c + d)) 21 ^^^ (rol (a + b) 32 + (rol d 16 ^^^ (c + d))))) 128 := (HB8.out.set 2 _)
  have K9 := (HK8.out.set (p := ⟨vb, 2, none⟩) (.inl rfl) (.int .u64 (lv (rol ((c + d) + (rol b 13 ^^^ (a + b))) 32))))
  have HB9 := Lib.hid B9
  have HK9 := Lib.hid K9
  clear B9 K9
  go_upto_region 11 with fail
  generalize (W8.setCell ⟨vb, 2, none⟩ (.int .u64 (lv (rol ((c + d) + (rol b 13 ^^^ (a + b))) 32)))) = W9 at HB9 HK9 ⊢
  clear cc ff
  obtain ⟨s, hs⟩ : ∃ s : Sip, s = sipRound ⟨a, b, c, d⟩ := ⟨_, rfl⟩
  have B : Blk W9 vb s.cells 128 := by rw [hs]; exact HB9.out
  have k2 : Keep (fun g => g = vb) W W9 := HK9.out
  have br := k2.blk HL.out.1.2.1 (by omega)
  have HS := Lib.hid hs
  have K2 := Lib.hid k2
  clear hs k2 ADD XOR
  go_wp2_with (first | (refine wpl_load rfl 128 (.tmp 1) rfl rfl B Try.underlying128 (sip_info s) ?_) | (refine wpl_store rfl 128 (.tmp 2) (.tmp 67) rfl rfl rfl br (sip_size s) (sip_info s) (sip_all s) ?_))
  have bf := br.setAll s.cells (sip_size s)
  have b1 := HL.out.1.2.2.trans (K2.out.below (B := vb) (by rw [HL.out.2]; omega) (fun k h => by rw [h]; exact Nat.le_refl _))
  have b2 := below_setCells (B := vb) (g := vb + 1) (by omega) s.cells.toList 0 W9 b1
  exact bodyPost_ret (v := .agg s.cells) (results_blk Try.results92 _ _ rfl bf Try.underlying128 (sip_info s)) rfl ⟨by rw [HS.out], by rw [hgw]; exact b2⟩
end Go.Proofs.Ytppcccocnmhbgaa
