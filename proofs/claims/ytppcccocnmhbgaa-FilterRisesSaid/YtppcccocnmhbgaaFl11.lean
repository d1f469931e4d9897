import Derived.Test.YtppcccocnmhbgaaFl6
import Derived.Test.YtppcccocnmhbgaaFl7
section
/- SipHash, the program's: RotateLeft64, round. -/
namespace Go.Proofs.Ytppcccocnmhbgaa
open Go Go.RowKit
set_option linter.unusedSimpArgs false
set_option linter.unusedVariables false
set_option maxRecDepth 100000

theorem shl64 (x : B64) (s : Nat) (h : s ≤ 64) : Op.shift .shl .u64 (lv x) .u64 (s : Int) = pure (.int .u64 (lv (x <<< s))) := by
  rw [shift_shl .u64 .u64 (lv x) (s : Int) (by omega) (by show (s : Int) ≤ 64; omega), Int.toNat_natCast, lv_shl]
theorem shr64 (x : B64) (s : Nat) (h : s ≤ 64) : Op.shift .shr .u64 (lv x) .u64 (s : Int) = pure (.int .u64 (lv (x >>> s))) := by
  rw [shift_shr .u64 .u64 (lv x) (s : Int) (by omega) (by show (s : Int) ≤ 64; omega), Int.toNat_natCast, lv_shr]
theorem rotl64 (x : B64) (n : Nat) (h0 : 0 < n) (h1 : n < 64) (w : World) :
    Calls Try.prog 106 #[.int .u64 (lv x), .int .i64 (n : Int)] w fun e w' => e = .returned (.int .u64 (lv (rol x n))) ∧ w = w' := by
  obtain ⟨s, hs⟩ : ∃ s, s + n = 64 := ⟨64 - n, by omega⟩
  have hm : bits .and .u64 (n : Int) 63 = (n : Int) := by
    have := u64_and_nat n 63 (by omega) (by decide)
    rw [show (63 : Int) = ((63 : Nat) : Int) from rfl, this, show n &&& 63 = n % 2 ^ 6 from Nat.and_two_pow_sub_one_eq_mod n 6, Nat.mod_eq_of_lt (by omega)]
  have hw0 : IntKind.u64.wrap (n : Int) = (n : Int) := IntWalk.u64_in _ (by omega)
  have hd : IntKind.u64.wrap (64 - (n : Int)) = (s : Int) := by simp [IntKind.wrap, IntKind.bits, IntKind.signed]; omega
  have hd2 : (64 : Int) - (n : Int) = (s : Int) := by omega
  have e1 := shl64 x n (by omega)
  have e2 := shr64 x s (by omega)
  have OR := lv_or
  have HE := Lib.hid (show (x <<< n) ||| (x >>> s) = rol x n from by rw [← rol_or x n h1, show 64 - n = s from by omega])
  clear h0 h1 hs
  go_enter Try.func106, Try.ntmps106
  go_wp2
  go_ret
  refine ⟨?_, rfl⟩
  show Ending.returned (.int .u64 (bits .or .u64 (IntKind.u64.wrap (lv x * 2 ^ n)) (lv x / 2 ^ s))) = _
  rw [lv_shl, lv_shr, lv_or, HE.out]
/-- four words, as cells -/
abbrev q64 (a b c d : B64) : Array Value := #[.int .u64 (lv a), .int .u64 (lv b), .int .u64 (lv c), .int .u64 (lv d)]
theorem sip_info (s : Sip) : (Try.prog.info? 128).map (·.size) = some s.cells.size := by kernel_rfl
theorem sip_size (s : Sip) : (#[.int .u64 0, .int .u64 0, .int .u64 0, .int .u64 0] : Array Value).size = s.cells.size := rfl
theorem sip_all (s : Sip) : s.cells.all (·.oneCell') = true := by simp [Sip.cells, Value.oneCell']
set_option maxHeartbeats 3200000 in
theorem pround (a b c d : B64) (w : World) :
    Calls Try.prog 92 #[.agg (q64 a b c d)] w fun e w' => e = .returned (.agg (sipRound ⟨a, b, c, d⟩).cells) ∧ Below w.heap.size w w' := by
  have L := two_blocks w (q64 a b c d) #[.int .u64 0, .int .u64 0, .int .u64 0, .int .u64 0] 128 128
  have hs2 : ((w.alloc (.cells (q64 a b c d) 128)).alloc (.cells #[.int .u64 0, .int .u64 0, .int .u64 0, .int .u64 0] 128)).heap.size = w.heap.size + 2 := by simp
  have HL := Lib.hid (And.intro L hs2)
  clear L hs2
  have ADD := lv_add
  have XOR := lv_xor
  go_enter Try.func92, Try.ntmps92
  go_upto_region 2 with fail
  generalize (w.alloc (.cells (q64 a b c d) 128)).alloc (.cells #[.int .u64 0, .int .u64 0, .int .u64 0, .int .u64 0] 128) = W at *
  generalize hgw : w.heap.size = vb at *
  have B := HL.out.1.1
  have K0 : Keep (fun g => g = vb) W W := Keep.refl _ _
  have cc := B.cell
  have ff := B.free
  have B2 : Blk ((W.setCell ⟨vb, 0, none⟩ (.int .u64 (lv (a + b)))).setCell ⟨vb, 2, none⟩ (.int .u64 (lv (c + d)))) vb (q64 (a + b) b (c + d) d) 128 := (B.set 0 _).set 2 _
  have K2 := (K0.set (p := ⟨vb, 0, none⟩) (.inl rfl) (.int .u64 (lv (a + b)))).set (p := ⟨vb, 2, none⟩) (.inl rfl) (.int .u64 (lv (c + d)))
  have HB2 := Lib.hid B2
  have HK2 := Lib.hid K2
  clear B K0 B2 K2
  go_upto_region 4 with fail
  generalize (W.setCell ⟨vb, 0, none⟩ (.int .u64 (lv (a + b)))).setCell ⟨vb, 2, none⟩ (.int .u64 (lv (c + d))) = W2 at HB2 HK2 ⊢
  clear cc ff
  have cc := HB2.out.cell
  have ff := HB2.out.free
  refine wp_region_last 8 (fun w' => w' = W2.drew) (by kernel_rfl) rfl (fun hS => ?_)
  refine wpAnyL_take (i := 0) (oi := ⟨_, _, _, _, _, _⟩) (v := ?_) rfl (by kernel_rfl) (by kernel_rfl) (by kernel_rfl) (by kernel_rfl) (fun _ _ _ h => h) (Or.inl ⟨by rfl, ?_⟩) hS ?_
  rotate_left
  · intro w0 hs; subst hs; go_simp; try (with_reducible rfl)
  try simp only [Act.put, List.setIfInBounds_toArray, List.set_cons_zero, List.set_cons_succ]
  refine wpAnyL_take (i := 1) (oi := ⟨_, _, _, _, _, _⟩) (v := ?_) rfl (by kernel_rfl) (by kernel_rfl) (by kernel_rfl) (by kernel_rfl) (fun _ _ _ h => h) (Or.inl ⟨by rfl, ?_⟩) hS ?_
  rotate_left
  · intro w0 hs; subst hs; go_simp; try (with_reducible rfl)
  try simp only [Act.put, List.setIfInBounds_toArray, List.set_cons_zero, List.set_cons_succ]
  refine wpAnyL_take (i := 2) (oi := ⟨_, _, _, _, _, _⟩) (v := ?_) rfl (by kernel_rfl) (by kernel_rfl) (by kernel_rfl) (by kernel_rfl) (fun _ _ _ h => h) (Or.inl ⟨by rfl, ?_⟩) hS ?_
  rotate_left
  · intro w0 hs; subst hs; go_simp; try (with_reducible rfl)
  try simp only [Act.put, List.setIfInBounds_toArray, List.set_cons_zero, List.set_cons_succ]
  refine wpAnyL_take (i := 4) (oi := ⟨_, _, _, _, _, _⟩) (v := ?_) rfl (by kernel_rfl) (by kernel_rfl) (by kernel_rfl) (by kernel_rfl) (fun _ _ _ h => h) (Or.inl ⟨by rfl, ?_⟩) hS ?_
  rotate_left
  · intro w0 hs; subst hs; go_simp; try (with_reducible rfl)
  try simp only [Act.put, List.setIfInBounds_toArray, List.set_cons_zero, List.set_cons_succ]
  refine wpAnyL_take (i := 5) (oi := ⟨_, _, _, _, _, _⟩) (v := ?_) rfl (by kernel_rfl) (by kernel_rfl) (by kernel_rfl) (by kernel_rfl) (fun _ _ _ h => h) (Or.inl ⟨by rfl, ?_⟩) hS ?_
  rotate_left
  · intro w0 hs; subst hs; go_simp; try (with_reducible rfl)
  try simp only [Act.put, List.setIfInBounds_toArray, List.set_cons_zero, List.set_cons_succ]
  refine wpAnyL_one (i := 3) (oi := ⟨_, _, _, _, _, _⟩) rfl (by kernel_rfl) (fun K hK => ?_)
  rw [if_pos (by rfl)]
  go_step
  refine (rotl64 b 13 (by decide) (by decide) _).mono ?_
  rintro e v1 ⟨rfl, rfl⟩
  simp only []
  have hS' := hS
  refine hK.out _ _ (.inr hS') ?_
  clear hS hK
  have hS := hS'; clear hS'
  try simp only [Act.put, List.setIfInBounds_toArray, List.set_cons_zero, List.set_cons_succ]
  refine wpAnyL_take (i := 6) (oi := ⟨_, _, _, _, _, _⟩) (v := ?_) rfl (by kernel_rfl) (by kernel_rfl) (by kernel_rfl) (by kernel_rfl) (fun _ _ _ h => h) (Or.inl ⟨by rfl, ?_⟩) hS ?_
  rotate_left
  · intro w0 hs; subst hs; go_simp; try (with_reducible rfl)
  try simp only [Act.put, List.setIfInBounds_toArray, List.set_cons_zero, List.set_cons_succ]
  refine wpAnyL_take (i := 7) (oi := ⟨_, _, _, _, _, _⟩) (v := ?_) rfl (by kernel_rfl) (by kernel_rfl) (by kernel_rfl) (by kernel_rfl) (fun _ _ _ h => h) (Or.inl ⟨by rfl, ?_⟩) hS ?_
  rotate_left
  · intro w0 hs; subst hs; go_simp; try (with_reducible rfl)
  try simp only [Act.put, List.setIfInBounds_toArray, List.set_cons_zero, List.set_cons_succ]
  refine wpAnyL_one (i := 8) (oi := ⟨_, _, _, _, _, _⟩) rfl (by kernel_rfl) (fun K hK => ?_)
  rw [if_pos (by rfl)]
  clear hS
  go_simp
  refine hK.out _ _ (.inl rfl) ?_
  clear hK
  try simp only [Act.put, List.setIfInBounds_toArray, List.set_cons_zero, List.set_cons_succ]
  refine wpAnyL_done (by kernel_rfl) ?_ _
  have B3 : Blk ((W2.setCell ⟨vb, 1, none⟩ (.int .u64 (lv (rol b 13 ^^^ (a + b))))).drew) vb (q64 (a + b) (rol b 13 ^^^ (a + b)) (c + d) d) 128 := (HB2.out.set 1 _).drew
  have K3 := (HK2.out.set (p := ⟨vb, 1, none⟩) (.inl rfl) (.int .u64 (lv (rol b 13 ^^^ (a + b))))).drew
  have HB3 := Lib.hid B3
  have HK3 := Lib.hid K3
  clear B3 K3
  go_upto_region 5 with fail
  generalize (W2.setCell ⟨vb, 1, none⟩ (.int .u64 (lv (rol b 13 ^^^ (a + b))))).drew = W3 at HB3 HK3 ⊢
  clear cc ff
  have cc := HB3.out.cell
  have ff := HB3.out.free
  refine wp_region_last 8 (fun w' => w' = W3.drew) (by kernel_rfl) rfl (fun hS => ?_)
  refine wpAnyL_take (i := 0) (oi := ⟨_, _, _, _, _, _⟩) (v := ?_) rfl (by kernel_rfl) (by kernel_rfl) (by kernel_rfl) (by kernel_rfl) (fun _ _ _ h => h) (Or.inl ⟨by rfl, ?_⟩) hS ?_
  rotate_left
  · intro w0 hs; subst hs; go_simp; try (with_reducible rfl)
  try simp only [Act.put, List.setIfInBounds_toArray, List.set_cons_zero, List.set_cons_succ]
  refine wpAnyL_take (i := 1) (oi := ⟨_, _, _, _, _, _⟩) (v := ?_) rfl (by kernel_rfl) (by kernel_rfl) (by kernel_rfl) (by kernel_rfl) (fun _ _ _ h => h) (Or.inl ⟨by rfl, ?_⟩) hS ?_
  rotate_left
  · intro w0 hs; subst hs; go_simp; try (with_reducible rfl)
  try simp only [Act.put, List.setIfInBounds_toArray, List.set_cons_zero, List.set_cons_succ]
  refine wpAnyL_take (i := 2) (oi := ⟨_, _, _, _, _, _⟩) (v := ?_) rfl (by kernel_rfl) (by kernel_rfl) (by kernel_rfl) (by kernel_rfl) (fun _ _ _ h => h) (Or.inl ⟨by rfl, ?_⟩) hS ?_
  rotate_left
  · intro w0 hs; subst hs; go_simp; try (with_reducible rfl)
  try simp only [Act.put, List.setIfInBounds_toArray, List.set_cons_zero, List.set_cons_succ]
  refine wpAnyL_take (i := 4) (oi := ⟨_, _, _, _, _, _⟩) (v := ?_) rfl (by kernel_rfl) (by kernel_rfl) (by kernel_rfl) (by kernel_rfl) (fun _ _ _ h => h) (Or.inl ⟨by rfl, ?_⟩) hS ?_
  rotate_left
  · intro w0 hs; subst hs; go_simp; try (with_reducible rfl)
  try simp only [Act.put, List.setIfInBounds_toArray, List.set_cons_zero, List.set_cons_succ]
  refine wpAnyL_take (i := 5) (oi := ⟨_, _, _, _, _, _⟩) (v := ?_) rfl (by kernel_rfl) (by kernel_rfl) (by kernel_rfl) (by kernel_rfl) (fun _ _ _ h => h) (Or.inl ⟨by rfl, ?_⟩) hS ?_
  rotate_left
  · intro w0 hs; subst hs; go_simp; try (with_reducible rfl)
  try simp only [Act.put, List.setIfInBounds_toArray, List.set_cons_zero, List.set_cons_succ]
  refine wpAnyL_one (i := 3) (oi := ⟨_, _, _, _, _, _⟩) rfl (by kernel_rfl) (fun K hK => ?_)
  rw [if_pos (by rfl)]
  go_step
  refine (rotl64 d 16 (by decide) (by decide) _).mono ?_
  rintro e v1 ⟨rfl, rfl⟩
  simp only []
  have hS' := hS
  refine hK.out _ _ (.inr hS') ?_
  clear hS hK
  have hS := hS'; clear hS'
  try simp only [Act.put, List.setIfInBounds_toArray, List.set_cons_zero, List.set_cons_succ]
  refine wpAnyL_take (i := 6) (oi := ⟨_, _, _, _, _, _⟩) (v := ?_) rfl (by kernel_rfl) (by kernel_rfl) (by kernel_rfl) (by kernel_rfl) (fun _ _ _ h => h) (Or.inl ⟨by rfl, ?_⟩) hS ?_
  rotate_left
  · intro w0 hs; subst hs; go_simp; try (with_reducible rfl)
  try simp only [Act.put, List.setIfInBounds_toArray, List.set_cons_zero, List.set_cons_succ]
  refine wpAnyL_take (i := 7) (oi := ⟨_, _, _, _, _, _⟩) (v := ?_) rfl (by kernel_rfl) (by kernel_rfl) (by kernel_rfl) (by kernel_rfl) (fun _ _ _ h => h) (Or.inl ⟨by rfl, ?_⟩) hS ?_
  rotate_left
  · intro w0 hs; subst hs; go_simp; try (with_reducible rfl)
  try simp only [Act.put, List.setIfInBounds_toArray, List.set_cons_zero, List.set_cons_succ]
  refine wpAnyL_one (i := 8) (oi := ⟨_, _, _, _, _, _⟩) rfl (by kernel_rfl) (fun K hK => ?_)
  rw [if_pos (by rfl)]
  clear hS
  go_simp
  refine hK.out _ _ (.inl rfl) ?_
  clear hK
  try simp only [Act.put, List.setIfInBounds_toArray, List.set_cons_zero, List.set_cons_succ]
  refine wpAnyL_done (by kernel_rfl) ?_ _
  have B4 : Blk ((W3.setCell ⟨vb, 3, none⟩ (.int .u64 (lv (rol d 16 ^^^ (c + d))))).drew) vb (q64 (a + b) (rol b 13 ^^^ (a + b)) (c + d) (rol d 16 ^^^ (c + d))) 128 := (HB3.out.set 3 _).drew
  have K4 := (HK3.out.set (p := ⟨vb, 3, none⟩) (.inl rfl) (.int .u64 (lv (rol d 16 ^^^ (c + d))))).drew
  have HB4 := Lib.hid B4
  have HK4 := Lib.hid K4
  clear B4 K4
  go_upto_region 6 with fail
  generalize (W3.setCell ⟨vb, 3, none⟩ (.int .u64 (lv (rol d 16 ^^^ (c + d))))).drew = W4 at HB4 HK4 ⊢
  clear cc ff
  have cc := HB4.out.cell
  have ff := HB4.out.free
  refine wp_region_last 8 (fun w' => w' = W4.drew) (by kernel_rfl) rfl (fun hS => ?_)
  refine wpAnyL_take (i := 0) (oi := ⟨_, _, _, _, _, _⟩) (v := ?_) rfl (by kernel_rfl) (by kernel_rfl) (by kernel_rfl) (by kernel_rfl) (fun _ _ _ h => h) (Or.inl ⟨by rfl, ?_⟩) hS ?_
  rotate_left
  · intro w0 hs; subst hs; go_simp; try (with_reducible rfl)
  try simp only [Act.put, List.setIfInBounds_toArray, List.set_cons_zero, List.set_cons_succ]
  refine wpAnyL_take (i := 1) (oi := ⟨_, _, _, _, _, _⟩) (v := ?_) rfl (by kernel_rfl) (by kernel_rfl) (by kernel_rfl) (by kernel_rfl) (fun _ _ _ h => h) (Or.inl ⟨by rfl, ?_⟩) hS ?_
  rotate_left
  · intro w0 hs; subst hs; go_simp; try (with_reducible rfl)
  try simp only [Act.put, List.setIfInBounds_toArray, List.set_cons_zero, List.set_cons_succ]
  refine wpAnyL_take (i := 2) (oi := ⟨_, _, _, _, _, _⟩) (v := ?_) rfl (by kernel_rfl) (by kernel_rfl) (by kernel_rfl) (by kernel_rfl) (fun _ _ _ h => h) (Or.inl ⟨by rfl, ?_⟩) hS ?_
  rotate_left
  · intro w0 hs; subst hs; go_simp; try (with_reducible rfl)
  try simp only [Act.put, List.setIfInBounds_toArray, List.set_cons_zero, List.set_cons_succ]
  refine wpAnyL_take (i := 4) (oi := ⟨_, _, _, _, _, _⟩) (v := ?_) rfl (by kernel_rfl) (by kernel_rfl) (by kernel_rfl) (by kernel_rfl) (fun _ _ _ h => h) (Or.inl ⟨by rfl, ?_⟩) hS ?_
  rotate_left
  · intro w0 hs; subst hs; go_simp; try (with_reducible rfl)
  try simp only [Act.put, List.setIfInBounds_toArray, List.set_cons_zero, List.set_cons_succ]
  refine wpAnyL_take (i := 5) (oi := ⟨_, _, _, _, _, _⟩) (v := ?_) rfl (by kernel_rfl) (by kernel_rfl) (by kernel_rfl) (by kernel_rfl) (fun _ _ _ h => h) (Or.inl ⟨by rfl, ?_⟩) hS ?_
  rotate_left
  · intro w0 hs; subst hs; go_simp; try (with_reducible rfl)
  try simp only [Act.put, List.setIfInBounds_toArray, List.set_cons_zero, List.set_cons_succ]
  refine wpAnyL_one (i := 3) (oi := ⟨_, _, _, _, _, _⟩) rfl (by kernel_rfl) (fun K hK => ?_)
  rw [if_pos (by rfl)]
  go_step
  refine (rotl64 (a + b) 32 (by decide) (by decide) _).mono ?_
  rintro e v1 ⟨rfl, rfl⟩
  simp only []
  have hS' := hS
  refine hK.out _ _ (.inr hS') ?_
  clear hS hK
  have hS := hS'; clear hS'
  try simp only [Act.put, List.setIfInBounds_toArray, List.set_cons_zero, List.set_cons_succ]
  refine wpAnyL_take (i := 6) (oi := ⟨_, _, _, _, _, _⟩) (v := ?_) rfl (by kernel_rfl) (by kernel_rfl) (by kernel_rfl) (by kernel_rfl) (fun _ _ _ h => h) (Or.inl ⟨by rfl, ?_⟩) hS ?_
  rotate_left
  · intro w0 hs; subst hs; go_simp; try (with_reducible rfl)
  try simp only [Act.put, List.setIfInBounds_toArray, List.set_cons_zero, List.set_cons_succ]
  refine wpAnyL_take (i := 7) (oi := ⟨_, _, _, _, _, _⟩) (v := ?_) rfl (by kernel_rfl) (by kernel_rfl) (by kernel_rfl) (by kernel_rfl) (fun _ _ _ h => h) (Or.inl ⟨by rfl, ?_⟩) hS ?_
  rotate_left
  · intro w0 hs; subst hs; go_simp; try (with_reducible rfl)
  try simp only [Act.put, List.setIfInBounds_toArray, List.set_cons_zero, List.set_cons_succ]
  refine wpAnyL_one (i := 8) (oi := ⟨_, _, _, _, _, _⟩) rfl (by kernel_rfl) (fun K hK => ?_)
  rw [if_pos (by rfl)]
  clear hS
  go_simp
  refine hK.out _ _ (.inl rfl) ?_
  clear hK
  try simp only [Act.put, List.setIfInBounds_toArray, List.set_cons_zero, List.set_cons_succ]
  refine wpAnyL_done (by kernel_rfl) ?_ _
  have B5 : Blk ((W4.setCell ⟨vb, 0, none⟩ (.int .u64 (lv (rol (a + b) 32 + (rol d 16 ^^^ (c + d)))))).drew) vb (q64 (rol (a + b) 32 + (rol d 16 ^^^ (c + d))) (rol b 13 ^^^ (a + b)) (c + d) (rol d 16 ^^^ (c + d))) 128 := (HB4.out.set 0 _).drew
  have K5 := (HK4.out.set (p := ⟨vb, 0, none⟩) (.inl rfl) (.int .u64 (lv (rol (a + b) 32 + (rol d 16 ^^^ (c + d)))))).drew
  have HB5 := Lib.hid B5
  have HK5 := Lib.hid K5
  clear B5 K5
  go_upto_region 7 with fail
  generalize (W4.setCell ⟨vb, 0, none⟩ (.int .u64 (lv (rol (a + b) 32 + (rol d 16 ^^^ (c + d)))))).drew = W5 at HB5 HK5 ⊢
  clear cc ff
  have cc := HB5.out.cell
  have ff := HB5.out.free
  have B6 : Blk ((W5.setCell ⟨vb, 2, none⟩ (.int .u64 (lv ((c + d) + (rol b 13 ^^^ (a + b))))))) vb (q64 (rol (a + b) 32 + (rol d 16 ^^^ (c + d))) (rol b 13 ^^^ (a + b)) ((c + d) + (rol b 13 ^^^ (a + b))) (rol d 16 ^^^ (c + d))) 128 := (HB5.out.set 2 _)
  have K6 := (HK5.out.set (p := ⟨vb, 2, none⟩) (.inl rfl) (.int .u64 (lv ((c + d) + (rol b 13 ^^^ (a + b))))))
  have HB6 := Lib.hid B6
  have HK6 := Lib.hid K6
  clear B6 K6
  go_upto_region 8 with fail
  generalize (W5.setCell ⟨vb, 2, none⟩ (.int .u64 (lv ((c + d) + (rol b 13 ^^^ (a + b)))))) = W6 at HB6 HK6 ⊢
  clear cc ff
  have cc := HB6.out.cell
  have ff := HB6.out.free
  refine wp_region_last 8 (fun w' => w' = W6.drew) (by kernel_rfl) rfl (fun hS => ?_)
  refine wpAnyL_take (i := 0) (oi := ⟨_, _, _, _, _, _⟩) (v := ?_) rfl (by kernel_rfl) (by kernel_rfl) (by kernel_rfl) (by kernel_rfl) (fun _ _ _ h => h) (Or.inl ⟨by rfl, ?_⟩) hS ?_
  rotate_left
  · intro w0 hs; subst hs; go_simp; try (with_reducible rfl)
  try simp only [Act.put, List.setIfInBounds_toArray, List.set_cons_zero, List.set_cons_succ]
  refine wpAnyL_take (i := 1) (oi := ⟨_, _, _, _, _, _⟩) (v := ?_) rfl (by kernel_rfl) (by kernel_rfl) (by kernel_rfl) (by kernel_rfl) (fun _ _ _ h => h) (Or.inl ⟨by rfl, ?_⟩) hS ?_
  rotate_left
  · intro w0 hs; subst hs; go_simp; try (with_reducible rfl)
  try simp only [Act.put, List.setIfInBounds_toArray, List.set_cons_zero, List.set_cons_succ]
  refine wpAnyL_take (i := 2) (oi := ⟨_, _, _, _, _, _⟩) (v := ?_) rfl (by kernel_rfl) (by kernel_rfl) (by kernel_rfl) (by kernel_rfl) (fun _ _ _ h => h) (Or.inl ⟨by rfl, ?_⟩) hS ?_
  rotate_left
  · intro w0 hs; subst hs; go_simp; try (with_reducible rfl)
  try simp only [Act.put, List.setIfInBounds_toArray, List.set_cons_zero, List.set_cons_succ]
  refine wpAnyL_take (i := 4) (oi := ⟨_, _, _, _, _, _⟩) (v := ?_) rfl (by kernel_rfl) (by kernel_rfl) (by kernel_rfl) (by kernel_rfl) (fun _ _ _ h => h) (Or.inl ⟨by rfl, ?_⟩) hS ?_
  rotate_left
  · intro w0 hs; subst hs; go_simp; try (with_reducible rfl)
  try simp only [Act.put, List.setIfInBounds_toArray, List.set_cons_zero, List.set_cons_succ]
  refine wpAnyL_take (i := 5) (oi := ⟨_, _, _, _, _, _⟩) (v := ?_) rfl (by kernel_rfl) (by kernel_rfl) (by kernel_rfl) (by kernel_rfl) (fun _ _ _ h => h) (Or.inl ⟨by rfl, ?_⟩) hS ?_
  rotate_left
  · intro w0 hs; subst hs; go_simp; try (with_reducible rfl)
  try simp only [Act.put, List.setIfInBounds_toArray, List.set_cons_zero, List.set_cons_succ]
  refine wpAnyL_one (i := 3) (oi := ⟨_, _, _, _, _, _⟩) rfl (by kernel_rfl) (fun K hK => ?_)
  rw [if_pos (by rfl)]
  go_step
  refine (rotl64 (rol d 16 ^^^ (c + d)) 21 (by decide) (by decide) _).mono ?_
  rintro e v1 ⟨rfl, rfl⟩
  simp only []
  have hS' := hS
  refine hK.out _ _ (.inr hS') ?_
  clear hS hK
  have hS := hS'; clear hS'
  try simp only [Act.put, List.setIfInBounds_toArray, List.set_cons_zero, List.set_cons_succ]
  refine wpAnyL_take (i := 6) (oi := ⟨_, _, _, _, _, _⟩) (v := ?_) rfl (by kernel_rfl) (by kernel_rfl) (by kernel_rfl) (by kernel_rfl) (fun _ _ _ h => h) (Or.inl ⟨by rfl, ?_⟩) hS ?_
  rotate_left
  · intro w0 hs; subst hs; go_simp; try (with_reducible rfl)
  try simp only [Act.put, List.setIfInBounds_toArray, List.set_cons_zero, List.set_cons_succ]
  refine wpAnyL_take (i := 7) (oi := ⟨_, _, _, _, _, _⟩) (v := ?_) rfl (by kernel_rfl) (by kernel_rfl) (by kernel_rfl) (by kernel_rfl) (fun _ _ _ h => h) (Or.inl ⟨by rfl, ?_⟩) hS ?_
  rotate_left
  · intro w0 hs; subst hs; go_simp; try (with_reducible rfl)
  try simp only [Act.put, List.setIfInBounds_toArray, List.set_cons_zero, List.set_cons_succ]
  refine wpAnyL_one (i := 8) (oi := ⟨_, _, _, _, _, _⟩) rfl (by kernel_rfl) (fun K hK => ?_)
  rw [if_pos (by rfl)]
  clear hS
  go_simp
  refine hK.out _ _ (.inl rfl) ?_
  clear hK
  try simp only [Act.put, List.setIfInBounds_toArray, List.set_cons_zero, List.set_cons_succ]
  refine wpAnyL_done (by kernel_rfl) ?_ _
  have B7 : Blk ((W6.setCell ⟨vb, 3, none⟩ (.int .u64 (lv (rol (rol d 16 ^^^ (c + d)) 21 ^^^ (rol (a + b) 32 + (rol d 16 ^^^ (c + d))))))).drew) vb (q64 (rol (a + b) 32 + (rol d 16 ^^^ (c + d))) (rol b 13 ^^^ (a + b)) ((c + d) + (rol b 13 ^^^ (a + b))) (rol (rol d 16 ^^^ (c + d)) 21 ^^^ (rol (a + b) 32 + (rol d 16 ^^^ (c + d))))) 128 := (HB6.out.set 3 _).drew
  have K7 := (HK6.out.set (p := ⟨vb, 3, none⟩) (.inl rfl) (.int .u64 (lv (rol (rol d 16 ^^^ (c + d)) 21 ^^^ (rol (a + b) 32 + (rol d 16 ^^^ (c + d))))))).drew
  have HB7 := Lib.hid B7
  have HK7 := Lib.hid K7
  clear B7 K7
  go_upto_region 9 with fail
  generalize (W6.setCell ⟨vb, 3, none⟩ (.int .u64 (lv (rol (rol d 16 ^^^ (c + d)) 21 ^^^ (rol (a + b) 32 + (rol d 16 ^^^ (c + d))))))).drew = W7 at HB7 HK7 ⊢
  clear cc ff
  have cc := HB7.out.cell
  have ff := HB7.out.free
  refine wp_region_last 8 (fun w' => w' = W7.drew) (by kernel_rfl) rfl (fun hS => ?_)
  refine wpAnyL_take (i := 0) (oi := ⟨_, _, _, _, _, _⟩) (v := ?_) rfl (by kernel_rfl) (by kernel_rfl) (by kernel_rfl) (by kernel_rfl) (fun _ _ _ h => h) (Or.inl ⟨by rfl, ?_⟩) hS ?_
  rotate_left
  · intro w0 hs; subst hs; go_simp; try (with_reducible rfl)
  try simp only [Act.put, List.setIfInBounds_toArray, List.set_cons_zero, List.set_cons_succ]
  refine wpAnyL_take (i := 1) (oi := ⟨_, _, _, _, _, _⟩) (v := ?_) rfl (by kernel_rfl) (by kernel_rfl) (by kernel_rfl) (by kernel_rfl) (fun _ _ _ h => h) (Or.inl ⟨by rfl, ?_⟩) hS ?_
  rotate_left
  · intro w0 hs; subst hs; go_simp; try (with_reducible rfl)
  try simp only [Act.put, List.setIfInBounds_toArray, List.set_cons_zero, List.set_cons_succ]
  refine wpAnyL_take (i := 2) (oi := ⟨_, _, _, _, _, _⟩) (v := ?_) rfl (by kernel_rfl) (by kernel_rfl) (by kernel_rfl) (by kernel_rfl) (fun _ _ _ h => h) (Or.inl ⟨by rfl, ?_⟩) hS ?_
  rotate_left
  · intro w0 hs; subst hs; go_simp; try (with_reducible rfl)
  try simp only [Act.put, List.setIfInBounds_toArray, List.set_cons_zero, List.set_cons_succ]
  refine wpAnyL_take (i := 4) (oi := ⟨_, _, _, _, _, _⟩) (v := ?_) rfl (by kernel_rfl) (by kernel_rfl) (by kernel_rfl) (by kernel_rfl) (fun _ _ _ h => h) (Or.inl ⟨by rfl, ?_⟩) hS ?_
  rotate_left
  · intro w0 hs; subst hs; go_simp; try (with_reducible rfl)
  try simp only [Act.put, List.setIfInBounds_toArray, List.set_cons_zero, List.set_cons_succ]
  refine wpAnyL_take (i := 5) (oi := ⟨_, _, _, _, _, _⟩) (v := ?_) rfl (by kernel_rfl) (by kernel_rfl) (by kernel_rfl) (by kernel_rfl) (fun _ _ _ h => h) (Or.inl ⟨by rfl, ?_⟩) hS ?_
  rotate_left
  · intro w0 hs; subst hs; go_simp; try (with_reducible rfl)
  try simp only [Act.put, List.setIfInBounds_toArray, List.set_cons_zero, List.set_cons_succ]
  refine wpAnyL_one (i := 3) (oi := ⟨_, _, _, _, _, _⟩) rfl (by kernel_rfl) (fun K hK => ?_)
  rw [if_pos (by rfl)]
  go_step
  refine (rotl64 (rol b 13 ^^^ (a + b)) 17 (by decide) (by decide) _).mono ?_
  rintro e v1 ⟨rfl, rfl⟩
  simp only []
  have hS' := hS
  refine hK.out _ _ (.inr hS') ?_
  clear hS hK
  have hS := hS'; clear hS'
  try simp only [Act.put, List.setIfInBounds_toArray, List.set_cons_zero, List.set_cons_succ]
  refine wpAnyL_take (i := 6) (oi := ⟨_, _, _, _, _, _⟩) (v := ?_) rfl (by kernel_rfl) (by kernel_rfl) (by kernel_rfl) (by kernel_rfl) (fun _ _ _ h => h) (Or.inl ⟨by rfl, ?_⟩) hS ?_
  rotate_left
  · intro w0 hs; subst hs; go_simp; try (with_reducible rfl)
  try simp only [Act.put, List.setIfInBounds_toArray, List.set_cons_zero, List.set_cons_succ]
  refine wpAnyL_take (i := 7) (oi := ⟨_, _, _, _, _, _⟩) (v := ?_) rfl (by kernel_rfl) (by kernel_rfl) (by kernel_rfl) (by kernel_rfl) (fun _ _ _ h => h) (Or.inl ⟨by rfl, ?_⟩) hS ?_
  rotate_left
  · intro w0 hs; subst hs; go_simp; try (with_reducible rfl)
  try simp only [Act.put, List.setIfInBounds_toArray, List.set_cons_zero, List.set_cons_succ]
  refine wpAnyL_one (i := 8) (oi := ⟨_, _, _, _, _, _⟩) rfl (by kernel_rfl) (fun K hK => ?_)
  rw [if_pos (by rfl)]
  clear hS
  go_simp
  refine hK.out _ _ (.inl rfl) ?_
  clear hK
  try simp only [Act.put, List.setIfInBounds_toArray, List.set_cons_zero, List.set_cons_succ]
  refine wpAnyL_done (by kernel_rfl) ?_ _
  have B8 : Blk ((W7.setCell ⟨vb, 1, none⟩ (.int .u64 (lv (rol (rol b 13 ^^^ (a + b)) 17 ^^^ ((c + d) + (rol b 13 ^^^ (a + b))))))).drew) vb (q64 (rol (a + b) 32 + (rol d 16 ^^^ (c + d))) (rol (rol b 13 ^^^ (a + b)) 17 ^^^ ((c + d) + (rol b 13 ^^^ (a + b)))) ((c + d) + (rol b 13 ^^^ (a + b))) (rol (rol d 16 ^^^ (c + d)) 21 ^^^ (rol (a + b) 32 + (rol d 16 ^^^ (c + d))))) 128 := (HB7.out.set 1 _).drew
  have K8 := (HK7.out.set (p := ⟨vb, 1, none⟩) (.inl rfl) (.int .u64 (lv (rol (rol b 13 ^^^ (a + b)) 17 ^^^ ((c + d) + (rol b 13 ^^^ (a + b))))))).drew
  have HB8 := Lib.hid B8
  have HK8 := Lib.hid K8
  clear B8 K8
  go_upto_region 10 with fail
  generalize (W7.setCell ⟨vb, 1, none⟩ (.int .u64 (lv (rol (rol b 13 ^^^ (a + b)) 17 ^^^ ((c + d) + (rol b 13 ^^^ (a + b))))))).drew = W8 at HB8 HK8 ⊢
  clear cc ff
  have cc := HB8.out.cell
  have ff := HB8.out.free
  have PR := Lib.hid (rotl64 ((c + d) + (rol b 13 ^^^ (a + b))) 32 (by decide) (by decide) W8)
  go_wp2_with fail
  refine PR.out.mono ?_
  rintro e v ⟨rfl, hv⟩
  obtain rfl : W8 = v := hv
  have B9 : Blk ((W8.setCell ⟨vb, 2, none⟩ (.int .u64 (lv (rol ((c + d) + (rol b 13 ^^^ (a + b))) 32))))) vb (q64 (rol (a + b) 32 + (rol d 16 ^^^ (c + d))) (rol (rol b 13 ^^^ (a + b)) 17 ^^^ ((c + d) + (rol b 13 ^^^ (a + b)))) (rol ((c + d) + (rol b 13 ^^^ (a + b))) 32) (rol (rol d 16 ^^^ (c + d)) 21 ^^^ (rol (a + b) 32 + (rol d 16 ^^^ (c + d))))) 128 := (HB8.out.set 2 _)
  have K9 := (HK8.out.set (p := ⟨vb, 2, none⟩) (.inl rfl) (.int .u64 (lv (rol ((c + d) + (rol b 13 ^^^ (a + b))) 32))))
  have HB9 := Lib.hid B9
  have HK9 := Lib.hid K9
  clear B9 K9
  go_upto_region 11 with fail
  generalize (W8.setCell ⟨vb, 2, none⟩ (.int .u64 (lv (rol ((c + d) + (rol b 13 ^^^ (a + b))) 32)))) = W9 at HB9 HK9 ⊢
  clear cc ff
  obtain ⟨s, hs⟩ : ∃ s : Sip, s = sipRound ⟨a, b, c, d⟩ := ⟨_, rfl⟩
  have B : Blk W9 vb s.cells 128 := by rw [hs]; exact HB9.out
  have k2 : Keep (fun g => g = vb) W W9 := HK9.out
  have br := k2.blk HL.out.1.2.1 (by omega)
  have HS := Lib.hid hs
  have K2 := Lib.hid k2
  clear hs k2 ADD XOR
  go_wp2_with (first | (refine wpl_load rfl 128 (.tmp 1) rfl rfl B Try.underlying128 (sip_info s) ?_) | (refine wpl_store rfl 128 (.tmp 2) (.tmp 67) rfl rfl rfl br (sip_size s) (sip_info s) (sip_all s) ?_))
  have bf := br.setAll s.cells (sip_size s)
  have b1 := HL.out.1.2.2.trans (K2.out.below (B := vb) (by rw [HL.out.2]; omega) (fun k h => by rw [h]; exact Nat.le_refl _))
  have b2 := below_setCells (B := vb) (g := vb + 1) (by omega) s.cells.toList 0 W9 b1
  exact bodyPost_ret (v := .agg s.cells) (results_blk Try.results92 _ _ rfl bf Try.underlying128 (sip_info s)) rfl ⟨by rw [HS.out], by rw [hgw]; exact b2⟩
end Go.Proofs.Ytppcccocnmhbgaa
end

section
/- SipHash, the program's: take. -/
namespace Go.Proofs.Ytppcccocnmhbgaa
open Go Go.RowKit
set_option linter.unusedSimpArgs false
set_option linter.unusedVariables false
set_option maxRecDepth 100000

theorem proundS (s : Sip) (w : World) : Calls Try.prog 92 #[.agg s.cells] w fun e w' => e = .returned (.agg (sipRound s).cells) ∧ Below w.heap.size w w' := pround s.a s.b s.c s.d w
theorem sip_size2 (s t : Sip) : s.cells.size = t.cells.size := rfl
set_option maxHeartbeats 3200000 in
theorem ptake (s : Sip) (m : B64) (w : World) :
    Calls Try.prog 90 #[.agg s.cells, .int .u64 (lv m)] w fun e w' => e = .returned (.agg (sipTake s m).cells) ∧ Below w.heap.size w w' := by
  have L := two_blocks w s.cells #[.int .u64 0, .int .u64 0, .int .u64 0, .int .u64 0] 128 128
  have hs2 : ((w.alloc (.cells s.cells 128)).alloc (.cells #[.int .u64 0, .int .u64 0, .int .u64 0, .int .u64 0] 128)).heap.size = w.heap.size + 2 := by simp
  have HL := Lib.hid (And.intro L hs2)
  clear L hs2
  have XOR := lv_xor
  go_enter Try.func90, Try.ntmps90
  go_upto_region 1 with fail
  generalize (w.alloc (.cells s.cells 128)).alloc (.cells #[.int .u64 0, .int .u64 0, .int .u64 0, .int .u64 0] 128) = W at *
  generalize hgw : w.heap.size = vb at *
  have c3 : W.cell? ⟨vb, 3, none⟩ = some (.int .u64 (lv s.d)) := HL.out.1.1.cell 3
  have f3 := HL.out.1.1.free 3
  have HB1 : Hid (Blk (W.setCell ⟨vb, 3, none⟩ (.int .u64 (lv (s.d ^^^ m)))) vb (⟨s.a, s.b, s.c, s.d ^^^ m⟩ : Sip).cells 128) := HL.out.1.1.set 3 _
  have HK1 := Lib.hid ((Keep.refl (fun g => g = vb) W).set (p := ⟨vb, 3, none⟩) (.inl rfl) (.int .u64 (lv (s.d ^^^ m))))
  go_upto_region 2 with fail
  generalize W.setCell ⟨vb, 3, none⟩ (.int .u64 (lv (s.d ^^^ m))) = W1 at HB1 HK1 ⊢
  clear c3 f3
  obtain ⟨t, ht⟩ : ∃ t : Sip, t = ⟨s.a, s.b, s.c, s.d ^^^ m⟩ := ⟨_, rfl⟩
  rw [← ht] at HB1
  have HTT := Lib.hid ht
  clear ht
  have B1 := HB1.out
  have P1 := Lib.hid (proundS t W1)
  go_wp2_with (refine wpl_load rfl 128 (.tmp 2) rfl rfl B1 Try.underlying128 (sip_info t) ?_)
  refine P1.out.mono ?_
  rintro e W2 ⟨rfl, hb2⟩
  have P2 := Lib.hid (proundS (sipRound t) W2)
  have HB2 := Lib.hid hb2
  clear hb2
  go_wp2_with fail
  refine P2.out.mono ?_
  rintro e W3 ⟨rfl, hb3⟩
  have K13 := HB2.out.trans (hb3.mono HB2.out.size)
  have b3 := B1.beyond K13
  obtain ⟨u, hu⟩ : ∃ u : Sip, u = sipRound (sipRound t) := ⟨_, rfl⟩
  rw [← hu]
  have HU := Lib.hid hu
  clear hu B1
  have HK3 := Lib.hid (HK1.out.trans (Keep.of_below (X := fun g => g = vb) K13))
  have H4 := Lib.hid (And.intro (b3.setAll u.cells (sip_size2 _ _)) (HK3.out.trans (Keep.setCells (X := fun g => g = vb) (g := vb) (.inl rfl) u.cells.toList 0 (Keep.refl _ W3))))
  clear K13 hb3
  go_upto_region 3 with (refine wpl_store rfl 128 (.tmp 2) (.tmp 12) rfl rfl rfl b3 (sip_size2 _ _) (sip_info u) (sip_all u) ?_)
  generalize W3.setCells vb 0 u.cells.toList = W4 at H4 ⊢
  clear b3
  have c0 : W4.cell? ⟨vb, 0, none⟩ = some (.int .u64 (lv u.a)) := H4.out.1.cell 0
  have f0 := H4.out.1.free 0
  have HB5 : Hid (Blk (W4.setCell ⟨vb, 0, none⟩ (.int .u64 (lv (u.a ^^^ m)))) vb (⟨u.a ^^^ m, u.b, u.c, u.d⟩ : Sip).cells 128) := H4.out.1.set 0 _
  have HK5 := Lib.hid (H4.out.2.set (p := ⟨vb, 0, none⟩) (.inl rfl) (.int .u64 (lv (u.a ^^^ m))))
  go_upto_region 4 with fail
  generalize W4.setCell ⟨vb, 0, none⟩ (.int .u64 (lv (u.a ^^^ m))) = W5 at HB5 HK5 ⊢
  clear c0 f0
  have hfin : (⟨u.a ^^^ m, u.b, u.c, u.d⟩ : Sip) = sipTake s m := by rw [HU.out, HTT.out]; rfl
  rw [hfin] at HB5
  have B := HB5.out
  have br := HK5.out.blk HL.out.1.2.1 (by omega)
  obtain ⟨z, hz⟩ : ∃ z, z = sipTake s m := ⟨_, rfl⟩
  rw [← hz] at B
  have HZ := Lib.hid hz
  clear hfin hz XOR
  go_wp2_with (first | (refine wpl_load rfl 128 (.tmp 2) rfl rfl B Try.underlying128 (sip_info z) ?_) | (refine wpl_store rfl 128 (.tmp 4) (.tmp 18) rfl rfl rfl br (sip_size z) (sip_info z) (sip_all z) ?_))
  have bf := br.setAll z.cells (sip_size z)
  have b1 := HL.out.1.2.2.trans (HK5.out.below (B := vb) (by rw [HL.out.2]; omega) (fun k h => by rw [h]; exact Nat.le_refl _))
  have b2 := below_setCells (B := vb) (g := vb + 1) (by omega) z.cells.toList 0 W5 b1
  exact bodyPost_ret (v := .agg z.cells) (results_blk Try.results90 _ _ rfl bf Try.underlying128 (sip_info z)) rfl ⟨by rw [HZ.out], by rw [hgw]; exact b2⟩
/-- the bytes of a word laid: an array of eight -/
def w8 (ys : List Int) (i : Nat) : Int := ys.getD i 0
def w8c (ys : List Int) : List Value := (List.range 8).map fun i => .int .u8 (w8 ys i)
theorem w8c_length (ys : List Int) : (w8c ys).length = 8 := by simp [w8c]
theorem w8c_get (ys : List Int) (i : Nat) (h : i < 8) : (w8c ys)[i]? = some (.int .u8 (w8 ys i)) := by simp [w8c, h]
theorem w8c_one (ys : List Int) : ∀ u ∈ w8c ys, u.oneCell' = true := by intro u hu; obtain ⟨j, _, rfl⟩ := List.mem_map.1 hu; rfl
theorem leN_zeros : ∀ k, leN (List.replicate k 0) = 0
  | 0 => rfl
  | k + 1 => by rw [List.replicate_succ]; show (0 : Int).toNat + 256 * leN (List.replicate k 0) = 0; rw [leN_zeros k]; rfl
theorem leN_append (a b : List Int) : leN (a ++ b) = leN a + 256 ^ a.length * leN b := by
  induction a with
  | nil => simp [leN]
  | cons x r ih =>
    show x.toNat + 256 * leN (r ++ b) = x.toNat + 256 * leN r + 256 ^ (r.length + 1) * leN b
    rw [ih, Nat.pow_succ, Nat.mul_add, ← Nat.mul_assoc, Nat.mul_comm 256 (256 ^ r.length)]; omega
/-- the eight bytes are the word's, and noughts -/
theorem w8_list (ys : List Int) (h : ys.length ≤ 8) : (List.range 8).map (w8 ys) = ys ++ List.replicate (8 - ys.length) 0 := by
  apply List.ext_getElem?
  intro i
  by_cases hi : i < 8
  · rw [List.getElem?_map, List.getElem?_range hi]
    by_cases hy : i < ys.length
    · rw [List.getElem?_append_left hy, List.getElem?_eq_getElem hy]
      simp [w8, List.getD_eq_getElem?_getD, List.getElem?_eq_getElem hy]
    · rw [List.getElem?_append_right (by omega), List.getElem?_replicate, if_pos (by omega)]
      simp [w8, List.getD_eq_getElem?_getD, List.getElem?_eq_none (show ys.length ≤ i by omega)]
  · rw [List.getElem?_eq_none (by simp; omega), List.getElem?_eq_none (by simp; omega)]
set_option maxHeartbeats 1600000 in
/-- sip.word: up to eight bytes, the lowest first -/
theorem sword (ys : List Int) (q : Option Addr) (c : Nat) (w : World) (hy : Lib.BytesIn w q ys.length ys) (hr : ∀ y ∈ ys, 0 ≤ y ∧ y ≤ 255) (h8 : ys.length ≤ 8) :
    Calls Try.prog 91 #[.slice q ys.length c] w fun e w' => e = .returned (.int .u64 ((leN ys : Nat) : Int)) ∧ Below w.heap.size w w' := by
  have bn := Blk.new w #[.int .u8 0, .int .u8 0, .int .u8 0, .int .u8 0, .int .u8 0, .int .u8 0, .int .u8 0, .int .u8 0] 145
  have k0 := (Below.refl w.heap.size w).alloc (Nat.le_refl _) (.cells #[.int .u8 0, .int .u8 0, .int .u8 0, .int .u8 0, .int .u8 0, .int .u8 0, .int .u8 0, .int .u8 0] 145)
  have RC : ∃ w1, (Builtin.copy_ #[26, 26] 3 #[.slice (some ⟨w.heap.size, 0, none⟩) 8 8, .slice q ys.length c]).run Try.prog (w.alloc (.cells #[.int .u8 0, .int .u8 0, .int .u8 0, .int .u8 0, .int .u8 0, .int .u8 0, .int .u8 0, .int .u8 0] 145)) = .ok (.int .i64 (ys.length : Int)) w1 ∧ Blk w1 w.heap.size (w8c ys).toArray 145 ∧ Below w.heap.size w w1 := by
    have hz8 : (#[.int .u8 0, .int .u8 0, .int .u8 0, .int .u8 0, .int .u8 0, .int .u8 0, .int .u8 0, .int .u8 0] : Array Value).toList = List.replicate 8 (.int .u8 0) := rfl
    have hw8 : w8c ys = u8s ys ++ List.replicate (8 - ys.length) (.int .u8 0) := by
      have : w8c ys = u8s ((List.range 8).map (w8 ys)) := by simp [w8c, u8s]
      rw [this, w8_list ys h8, u8s_append]
      congr 1
      simp [u8s]
    by_cases h0 : ys.length = 0
    · obtain rfl : ys = [] := List.eq_nil_of_length_eq_zero h0
      refine ⟨_, ?_, ?_, k0⟩
      · obtain ⟨i0, hi, _, _, _⟩ := info_parts (show (Try.prog.info? 5).map (fun i => (i.zero, i.size, i.bytes)) = some (some (.int .u8 0), 1, 1) by kernel_rfl)
        cases q <;> simp [Builtin.copy_, hi, run_underlying Try.underlying26, sizeOf, typeInfo, Builtin.lenOf, Builtin.firstCells, loadCells, loadCellsFrom, storeCells, goInt]
      · rw [hw8]; exact bn
    · obtain ⟨pb, po, rfl, hc⟩ := hy.at (by omega)
      have hyl : pb < w.heap.size := by have := cell_lt (hc 0 (by omega)); exact this
      have run := run_copy_cells (P := Try.prog) (w.alloc (.cells #[.int .u8 0, .int .u8 0, .int .u8 0, .int .u8 0, .int .u8 0, .int .u8 0, .int .u8 0, .int .u8 0] 145)) 26 26 3 5 w.heap.size 0 8 8 ⟨pb, po, none⟩ ys.length c (u8s ys) Try.underlying26 (by kernel_rfl) (by rw [u8s_length]; exact (Nat.min_eq_left h8).symm)
        (fun j v hv => by
          have hj : j < ys.length := by have := (List.getElem?_eq_some_iff.1 hv).1; simpa [u8s_length] using this
          rw [u8s_get ys j hj] at hv
          rw [Addr.add_lit, k0.cell (p := ⟨pb, po + j, none⟩) hyl, hc j hj]; exact hv)
        (fun j hj => by
          rw [u8s_length] at hj
          rw [Nat.zero_add, bn.cell, ← Array.getElem?_toList, hz8, List.getElem?_replicate, if_pos (by omega)]; rfl)
        (fun j _ => bn.free _) (u8s_one ys)
      rw [u8s_length] at run
      refine ⟨_, run, ?_, below_setCells (Nat.le_refl _) _ _ _ k0⟩
      have h1 := bn.setMid 0 (u8s ys) (by rw [u8s_length]; show 0 + ys.length ≤ 8; omega)
      rw [hz8, List.take_zero, List.nil_append, Nat.zero_add, List.drop_replicate, u8s_length, ← hw8] at h1
      exact h1
  obtain ⟨w1, run1, b1, k1⟩ := RC
  have HL := Lib.hid k1
  clear bn k0 hy k1
  go_enter Try.func91, Try.ntmps91
  have hinf : (Try.prog.info? 145).map (·.size) = some (w8c ys).toArray.size := by rw [List.size_toArray, w8c_length]; kernel_rfl
  go_wp2_with (first | (at_builtin; fail) | (refine Lib.wpList_copy_run rfl _ _ _ _ _ rfl rfl rfl run1 ?_) | (refine wpl_load rfl 145 (.tmp 3) rfl rfl b1 Try.underlying145 hinf ?_))
  have hLL : ((List.range 8).map (w8 ys)).length = 8 := by simp
  have hRR : ∀ y ∈ (List.range 8).map (w8 ys), 0 ≤ y ∧ y ≤ 255 := fun y hy => by
    rw [w8_list ys h8, List.mem_append] at hy
    rcases hy with h | h
    · exact hr y h
    · rw [(List.mem_replicate.1 h).2]; exact ⟨Int.le_refl 0, by decide⟩
  have hSum : leN ((List.range 8).map (w8 ys)) = leN ys := by rw [w8_list ys h8, leN_append, leN_zeros]; omega
  have HF := Lib.hid (And.intro hLL (And.intro hRR hSum))
  clear hLL hRR hSum hr b1 run1
  go_loopg [4, 11] 8 (fun gh s i wx => ∃ k t : Nat, k ≤ 8 ∧ s = .int .u64 (t : Int) ∧ i = .int .i64 (k : Int) ∧ gh = 8 - k ∧ Hid (t = leN (((List.range 8).map (w8 ys)).take k)) ∧ wx = w1)
  case atStart => exact ⟨0, 0, Nat.zero_le _, rfl, rfl, rfl, by rw [List.take_zero]; rfl, rfl⟩
  case round =>
    obtain ⟨k, t, hk, rfl, rfl, hg, HT, hwx⟩ := hrel
    obtain rfl : w1 = wr := hwx.symm
    have HGK := Lib.hid hg
    clear hg
    by_cases hlt : k < 8
    · have gi := fun w => run_index_arr (P := Try.prog) 145 5 8 k (w8c ys).toArray (.int .u8 (w8 ys k)) w Try.underlying145 (fun w => by kernel_rfl) (fun w => by kernel_rfl) hlt (by rw [List.getElem?_toArray]; exact w8c_get ys k hlt)
      have hst := le_step ((List.range 8).map (w8 ys)) HF.out.2.1 k (by rw [HF.out.1]; exact hlt) (by rw [HF.out.1]; exact Nat.le_refl _)
      have hx := getD_rng HF.out.2.1 k
      rw [show ((List.range 8).map (w8 ys)).getD k 0 = w8 ys k from by rw [List.getD_eq_getElem?_getD, List.getElem?_map, List.getElem?_range hlt]; rfl] at hst hx
      generalize w8 ys k = x at *
      rw [← HT.out] at hst
      generalize hu : leN (((List.range 8).map (w8 ys)).take (k + 1)) = u at *
      have HU := Lib.hid hu
      obtain ⟨hx0, hx1⟩ := hx
      have a2 : IntKind.i64.wrap (8 * (k : Int)) = 8 * (k : Int) := by rw [IntKind.wrap_i64]; omega
      have hux : IntKind.u64.wrap x = x := IntWalk.u64_in _ (by omega)
      clear hu
      go_wp2
      go_roundg (8 - (k + 1))
      case measure => rw [HGK.out]; omega
      case rel => exact ⟨k + 1, u, hlt, rfl, rfl, rfl, HU.out.symm, rfl⟩
    · obtain rfl : k = 8 := by omega
      go_wp2
      go_ret
      refine ⟨congrArg (fun n : Nat => Ending.returned (.int .u64 (n : Int))) ?_, HL.out⟩
      rw [HT.out, List.take_of_length_le (by rw [HF.out.1]; exact Nat.le_refl _), HF.out.2.2]
end Go.Proofs.Ytppcccocnmhbgaa
end

section
/- The high half of a product: the program's, and the document's, bit by bit. -/
namespace Go.Proofs.Ytppcccocnmhbgaa
open Go Go.RowKit
set_option linter.unusedSimpArgs false
set_option linter.unusedVariables false
set_option maxRecDepth 100000

theorem pscale (x n : Nat) (hx : x < 18446744073709551616) (hn : n < 18446744073709551616) (w : World) :
    Calls Try.prog 64 #[.int .u64 (x : Int), .int .u64 (n : Int)] w fun e w' => e = .returned (.int .u64 ((x * n / 18446744073709551616 : Nat) : Int)) ∧ w' = w := by
  have P := Lib.hid (Try.bits_Mul64 x n hx hn w)
  clear hx hn
  go_enter Try.func64, Try.ntmps64
  go_wp2_with fail
  refine P.out.mono ?_
  rintro e w1 ⟨rfl, rfl⟩
  go_wp2
  go_ret
  exact ⟨rfl, rfl⟩
theorem or_carry (h l : Nat) (hh : h < 2 ^ 63) (hl : l < 2 ^ 64) : bits .or .u64 (IntKind.u64.wrap ((h : Int) * 2)) ((l : Int) / 9223372036854775808) = ((2 * h + l / 2 ^ 63 : Nat) : Int) := by
  have e1 : IntKind.u64.wrap ((h : Int) * 2) = ((2 * h : Nat) : Int) := by rw [IntKind.wrap_u64]; omega
  have e2 : (l : Int) / 9223372036854775808 = ((l / 2 ^ 63 : Nat) : Int) := by omega
  rw [e1, e2, show bits .or .u64 ((2 * h : Nat) : Int) ((l / 2 ^ 63 : Nat) : Int) = ((2 * h ||| l / 2 ^ 63 : Nat) : Int) from u64_or_nat _ _ (by omega) (by omega)]
  congr 1
  exact (Nat.two_pow_add_eq_or_of_lt (i := 1) (b := l / 2 ^ 63) (by omega) h).symm
theorem scale_step (A n h l P : Nat) (hP : P = 2 ^ 64) (hA : 2 * A < P) (hn : n < P) (hl : l < P) (e : h * P + l = A * n) :
    2 * h < P ∧ (2 * h + 2 * l / P) * P + 2 * l % P = 2 * A * n := by
  have h0 : 0 < P := by rw [hP]; exact Nat.two_pow_pos _
  have h2 : 2 * A * n < P * P := Nat.mul_lt_mul'' hA hn
  rw [Nat.mul_assoc, ← e, Nat.mul_add] at h2
  constructor
  · have : 2 * (h * P) < P * P := by omega
    rw [← Nat.mul_assoc] at this
    exact Nat.lt_of_mul_lt_mul_right this
  · have := Nat.div_add_mod (2 * l) P
    rw [Nat.add_mul, Nat.mul_assoc 2 A n, ← e, Nat.mul_add, Nat.mul_assoc, Nat.mul_comm (2 * l / P) P]
    omega
theorem scale_add (B n h l P : Nat) (h0 : 0 < P) (hB : B < P) (hn : n < P) (hl : l < P) (hh : h * P + l + n = B * n) (hBP : h + 1 ≤ P) :
    (h + (l + n) / P) * P + (l + n) % P = B * n := by
  have := Nat.div_add_mod (l + n) P
  rw [Nat.add_mul, Nat.mul_comm ((l + n) / P) P]
  omega
theorem scale_bit (x k : Nat) : x / 2 ^ k = 2 * (x / 2 ^ (k + 1)) + x / 2 ^ k % 2 := by
  rw [Nat.pow_succ, ← Nat.div_div_eq_div_mul]; omega
set_option maxHeartbeats 1600000 in
theorem rscale (x n : Nat) (hx : x < 18446744073709551616) (hn : n < 18446744073709551616) (w : World) :
    Calls Try.prog 72 #[.int .u64 (x : Int), .int .u64 (n : Int)] w fun e w' => e = .returned (.int .u64 ((x * n / 18446744073709551616 : Nat) : Int)) ∧ w' = w := by
  have HX := Lib.hid (And.intro hx hn)
  clear hx
  go_enter Try.func72, Try.ntmps72
  go_wp2
  go_loopg [5, 6, 7] 64 (fun gh hi lo i wx => ∃ (k h l : Nat), k ≤ 64 ∧ h < 18446744073709551616 ∧ l < 18446744073709551616 ∧ hi = .int .u64 (h : Int) ∧ lo = .int .u64 (l : Int) ∧ i = .int .i64 ((k : Int) - 1) ∧ gh = k ∧ Hid (h * 2 ^ 64 + l = x / 2 ^ k * n) ∧ wx = w)
  case atStart => exact ⟨64, 0, 0, Nat.le_refl _, by decide, by decide, rfl, rfl, rfl, rfl, Lib.hid (by rw [Nat.div_eq_of_lt (show x < 2 ^ 64 from HX.out.1)]; simp), rfl⟩
  case round =>
    obtain ⟨k, h, l, hk, hh, hl, rfl, rfl, rfl, hg, HR, hwx⟩ := hrel
    obtain rfl : w = wr := hwx.symm
    have HG := Lib.hid hg
    clear hg
    by_cases hlt : 0 < k
    · obtain ⟨j, hj⟩ : ∃ j, j + 1 = k := ⟨k - 1, by omega⟩
      have hjk : (k : Int) - 1 = (j : Int) := by omega
      rw [hjk]
      have HK := Lib.hid (And.intro hj hjk)
      obtain ⟨A, hA⟩ : ∃ A, A = x / 2 ^ (j + 1) := ⟨_, rfl⟩
      obtain ⟨B, hB⟩ : ∃ B, B = x / 2 ^ j := ⟨_, rfl⟩
      have hAB : B = 2 * A + B % 2 := by rw [hA, hB]; exact scale_bit x j
      rw [← hj, ← hA] at HR
      have hBP : B < 18446744073709551616 := by rw [hB]; exact Nat.lt_of_le_of_lt (Nat.div_le_self _ _) HX.out.1
      obtain ⟨s1, s2⟩ := scale_step A n h l 18446744073709551616 rfl (by omega) hn hl HR
      have hor := or_carry h l (by omega) hl
      obtain ⟨h2, hh2⟩ : ∃ h2, h2 = 2 * h + l / 2 ^ 63 := ⟨_, rfl⟩
      obtain ⟨l2, hl2⟩ : ∃ l2, l2 = 2 * l % 18446744073709551616 := ⟨_, rfl⟩
      rw [← hh2] at hor
      have hll : 2 * l / 18446744073709551616 = l / 2 ^ 63 := by omega
      rw [hll, ← hh2, ← hl2] at s2
      have hw2 : IntKind.u64.wrap ((l : Int) * 2) = (l2 : Int) := by rw [IntKind.wrap_u64]; omega
      have b2 : h2 < 18446744073709551616 := by omega
      have b3 : l2 < 18446744073709551616 := by omega
      have hand : bits .and .u64 ((x : Int) / 2 ^ j) 1 = ((B % 2 : Nat) : Int) := by
        rw [show (x : Int) / 2 ^ j = (B : Int) from by rw [hB]; simp]; exact and1 B hBP
      have hjw : IntKind.i64.wrap ((j : Int) - 1) = (j : Int) - 1 := by rw [IntKind.wrap_i64]; omega
      have HS := Lib.hid (And.intro s2 hAB)
      have HBB := Lib.hid hB
      have hj64 : j ≤ 64 := by omega
      clear s1 s2 hh2 hl2 hll hA hB hAB hj hjk HR
      rcases (by omega : B % 2 = 0 ∨ B % 2 = 1) with hb | hb
      · have hand0 : bits .and .u64 ((x : Int) / 2 ^ j) 1 = 0 := by rw [hand, hb]; rfl
        have HB := Lib.hid hb
        clear hb hand
        go_wp2
        go_roundg j
        case measure => rw [HG.out]; have := HK.out.1; omega
        case rel => exact ⟨j, h2, l2, hj64, b2, b3, rfl, rfl, rfl, rfl, Lib.hid (by rw [← HBB.out, HS.out.2, HB.out, Nat.add_zero]; exact HS.out.1), rfl⟩
      · have hand0 : bits .and .u64 ((x : Int) / 2 ^ j) 1 = 1 := by rw [hand, hb]; rfl
        have hBn : h2 * 18446744073709551616 + l2 + n = B * n := by rw [HS.out.2, hb, Nat.add_mul, Nat.one_mul, HS.out.1]
        have hsum := scale_add B n h2 l2 18446744073709551616 (by decide) hBP hn b3 hBn (by omega)
        have hbig : B * n < 18446744073709551616 * 18446744073709551616 := Nat.mul_lt_mul'' hBP hn
        obtain ⟨r, hr⟩ : ∃ r, r = (l2 + n) % 18446744073709551616 := ⟨_, rfl⟩
        obtain ⟨q, hq⟩ : ∃ q, q = (l2 + n) / 18446744073709551616 := ⟨_, rfl⟩
        rw [← hr, ← hq] at hsum
        have hwr : IntKind.u64.wrap ((l2 : Int) + (n : Int)) = (r : Int) := by rw [IntKind.wrap_u64]; omega
        have b4 : r < 18446744073709551616 := by omega
        have hq2 : h2 + q < 18446744073709551616 := by omega
        have HSUM := Lib.hid hsum
        rcases (by omega : (q = 0 ∧ ¬ r < n) ∨ (q = 1 ∧ r < n)) with ⟨h0, h1⟩ | ⟨h0, h1⟩
        · subst h0
          have d1 : ¬ ((r : Int) < (n : Int)) := by omega
          clear hb hand hBn hsum hbig hr hq h1
          go_wp2
          go_roundg j
          case measure => rw [HG.out]; have := HK.out.1; omega
          case rel => exact ⟨j, h2, r, hj64, b2, b4, rfl, rfl, rfl, rfl, Lib.hid (by have := HSUM.out; rw [Nat.add_zero] at this; rw [← HBB.out]; exact this), rfl⟩
        · subst h0
          have d1 : (r : Int) < (n : Int) := by omega
          have hw1 : IntKind.u64.wrap ((h2 : Int) + 1) = ((h2 + 1 : Nat) : Int) := by rw [IntKind.wrap_u64]; omega
          clear hb hand hBn hsum hbig hr hq h1
          go_wp2
          go_roundg j
          case measure => rw [HG.out]; have := HK.out.1; omega
          case rel => exact ⟨j, h2 + 1, r, hj64, hq2, b4, rfl, rfl, rfl, rfl, Lib.hid (by rw [← HBB.out]; exact HSUM.out), rfl⟩
    · obtain rfl : k = 0 := by omega
      have HE : Hid (h = x * n / 18446744073709551616) := Lib.hid (by
        have := HR.out
        rw [Nat.pow_zero, Nat.div_one] at this
        rw [← this, Nat.mul_comm h]
        omega)
      go_wp2
      go_ret
      exact ⟨congrArg (fun n : Nat => Ending.returned (.int .u64 (n : Int))) HE.out, rfl⟩
end Go.Proofs.Ytppcccocnmhbgaa
end
