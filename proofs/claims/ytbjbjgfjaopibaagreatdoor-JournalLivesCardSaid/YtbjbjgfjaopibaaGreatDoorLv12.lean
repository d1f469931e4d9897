import Derived.Test.YtbjbjgfjaopibaaGreatDoorLv9
import Derived.Test.YtbjbjgfjaopibaaGreatDoorLv4
import Derived.Test.YtbjbjgfjaopibaaGreatDoorLv11
import Derived.Test.YtbjbjgfjaopibaaGreatDoorRows
import Derived.Test.YtbjbjgfjaopibaaGreatDoorLv1
import Derived.Test.YtbjbjgfjaopibaaGreatDoorLv3
import Derived.BigQuiet
import Derived.StillTailTactics
section
/- What stands ahead of a batch's bytes. -/
namespace Go.Proofs.YtbjbjgfjaopibaaGreatDoor
open Go Go.RowKit
set_option linter.unusedSimpArgs false
set_option linter.unusedVariables false
set_option maxRecDepth 100000

abbrev hzer : Array Value := #[.int .u8 0, .int .u8 0, .int .u8 0, .int .u8 0, .int .u8 0, .int .u8 0, .int .u8 0, .int .u8 0, .int .u8 0, .int .u8 0, .int .u8 0, .int .u8 0, .int .u8 0, .int .u8 0, .int .u8 0, .int .u8 0, .int .u8 0, .int .u8 0, .int .u8 0, .int .u8 0, .int .u8 0, .int .u8 0, .int .u8 0, .int .u8 0, .int .u8 0, .int .u8 0, .int .u8 0, .int .u8 0, .int .u8 0, .int .u8 0, .int .u8 0, .int .u8 0]
set_option maxHeartbeats 3200000 in
theorem phead (xs : List Int) (q : Option Addr) (c : Nat) (w : World) (G : Glob w) (hy : Lib.BytesIn w q xs.length xs) (hr : ∀ y ∈ xs, 0 ≤ y ∧ y ≤ 255) (hc : xs.length ≤ c) (hl : xs.length ≤ 140737488351232) :
    Calls Tryz.prog 44 #[.slice q xs.length c] w fun e w' => ∃ p c' o, e = .returned (.slice p 12 c') ∧ Row w' 5 (.slice p 12 c') (headB xs) o ∧ (∀ g, o = some g → w.heap.size ≤ g) ∧ Below w.heap.size w w' := by
  have PD := Lib.hid (pdouble xs q c w G hy hr hc (by omega))
  clear G hy hr hc
  obtain ⟨n, hn⟩ : ∃ n, n = xs.length := ⟨_, rfl⟩
  rw [← hn] at PD hl ⊢
  have HN := Lib.hid hn
  clear hn
  have n0 : (0 : Int) ≤ (n : Int) := by omega
  go_enter Tryz.func44, Tryz.ntmps44
  go_wp2_with fail
  refine PD.out.mono ?_
  rintro e w1 ⟨rfl, hb1⟩
  obtain ⟨HC, hHC⟩ : ∃ HC, HC = hcs (dblN xs) := ⟨_, rfl⟩
  rw [show hv (dblN xs) = .agg HC from by rw [hHC]]
  have hsz : HC.size = 32 := by rw [hHC]; exact hcs_size _
  have hone : HC.all (·.oneCell') = true := by rw [hHC]; exact hcs_one _
  have hinf : (Tryz.prog.info? 104).map (·.size) = some HC.size := by rw [hsz]; kernel_rfl
  have bz := Blk.new w1 hzer 104
  have HHC := Lib.hid hHC
  clear hHC
  go_upto_region 3 with (refine wpl_store rfl 104 (.tmp 4) (.tmp 8) rfl rfl rfl bz (by rw [hsz]; rfl) hinf hone ?_)
  have k2 := below_setCells (B := w1.heap.size) (g := w1.heap.size) (Nat.le_refl _) HC.toList 0 (w1.alloc (.cells hzer 104)) ((Below.refl w1.heap.size w1).alloc (Nat.le_refl _) _)
  have b2 := bz.setAll HC (by rw [hsz]; rfl)
  clear bz
  generalize (w1.alloc (.cells hzer 104)).setCells w1.heap.size 0 HC.toList = w2 at *
  have hb2 := hb1.trans (k2.mono hb1.size)
  obtain ⟨i0, hi, hz0, hz1, hz2⟩ := info_parts u8inf
  have e4 : [Value.int .u8 ((n : Int) % 256), .int .u8 ((n : Int) / 256 % 256), .int .u8 ((n : Int) / 65536 % 256), .int .u8 ((n : Int) / 16777216 % 256)] = u8s (leB n 4) := by
    rw [leB_cons, leB_cons, leB_cons, leB_cons, Nat.div_div_eq_div_mul, Nat.div_div_eq_div_mul]
    rfl
  have bl := Blk.new w2 #[.int .u8 ((n : Int) % 256), .int .u8 ((n : Int) / 256 % 256), .int .u8 ((n : Int) / 65536 % 256), .int .u8 ((n : Int) / 16777216 % 256)] 5
  have R0 : Row (w2.alloc (.cells #[.int .u8 ((n : Int) % 256), .int .u8 ((n : Int) / 256 % 256), .int .u8 ((n : Int) / 65536 % 256), .int .u8 ((n : Int) / 16777216 % 256)] 5)) 5 (.slice (some ⟨w2.heap.size, 0, none⟩) 4 4) (leB n 4) (some w2.heap.size) :=
    .inr ⟨w2.heap.size, 4, _, rfl, by rw [leB_length], bl, by rw [leB_length]; exact Nat.le_refl _, Nat.le_refl _, by decide, by rw [leB_length]; exact e4⟩
  have l8 : ((hbytes (dblN xs)).take 8).length = 8 := by rw [List.length_take, hbytes_length]; rfl
  have hy8 : Lib.BytesIn (w2.alloc (.cells #[.int .u8 ((n : Int) % 256), .int .u8 ((n : Int) / 256 % 256), .int .u8 ((n : Int) / 65536 % 256), .int .u8 ((n : Int) / 16777216 % 256)] 5)) (some ⟨w1.heap.size, 0, none⟩) ((hbytes (dblN xs)).take 8).length ((hbytes (dblN xs)).take 8) := Lib.BytesIn.of_cells fun i hi => by
    rw [l8] at hi
    rw [Addr.add_lit, Nat.zero_add, (b2.alloc _).cell, HHC.out, hcs_get _ _ (by omega)]
    simp [hbytes, List.getD_eq_getElem?_getD, List.getElem?_take, hi, (by omega : i < 32)]
  obtain ⟨v3, w3, o3, run3, R3, ho3, k3⟩ := row_appendL (P := Tryz.prog) 22 22 i0 (.int .u8 0) Tryz.underlying22 hi hz0 hz1 hz2 rfl R0 (p := some ⟨w1.heap.size, 0, none⟩) (c := 32) (ys := (hbytes (dblN xs)).take 8) hy8 (by rw [leB_length, l8]; decide)
  have hst := own_step (G := w.heap.size) rfl (hb2.alloc hb2.size _) (fun g hg => by cases hg; exact hb2.size) ho3 k3
  have e5 : leB n 4 ++ (hbytes (dblN xs)).take 8 = headB xs := by unfold headB; rw [← HN.out]
  rw [e5] at R3
  rw [l8] at run3
  obtain ⟨p3, c3, rfl, _⟩ := R3.form
  rw [headB_len] at R3 run3
  have HF := Lib.hid (And.intro R3 hst)
  clear bl R0 l8 hy8 R3 ho3 k3 hst e4 e5 hi hz0 hz1 hz2 hb2 b2 k2 hb1
  go_wp2_with (at_builtin; refine wpl_append rfl _ _ 22 rfl rfl rfl run3 ?_)
  go_ret
  exact ⟨p3, c3, o3, rfl, HF.out.1, HF.out.2⟩
end Go.Proofs.YtbjbjgfjaopibaaGreatDoor
end

section
/- journal.frame, walked. -/
namespace Go.Proofs.YtbjbjgfjaopibaaGreatDoor
open Go Go.RowKit
set_option linter.unusedSimpArgs false
set_option linter.unusedVariables false
set_option maxRecDepth 100000

theorem i64_or_nat (a b : Nat) (ha : a < 4611686018427387904) (hb : b < 4611686018427387904) : bits .or .i64 (a : Int) (b : Int) = ((a ||| b : Nat) : Int) := by
  have hx : a ||| b < 2 ^ 62 := Nat.or_lt_two_pow (by omega) (by omega)
  show IntKind.i64.wrap ((BitVec.ofInt 64 (a : Int) ||| BitVec.ofInt 64 (b : Int)).toNat : Int) = _
  rw [BitVec.toNat_or, ofInt_u64 a (by omega), ofInt_u64 b (by omega), IntKind.wrap_i64]
  omega
theorem or_up (a b k : Nat) (ha : a < 2 ^ k) (hk : k ≤ 24) (hb : b < 256) : bits .or .i64 (a : Int) ((b * 2 ^ k : Nat) : Int) = ((a + b * 2 ^ k : Nat) : Int) := by
  have h1 : 2 ^ k ≤ 2 ^ 24 := Nat.pow_le_pow_right (by decide) hk
  have h2 : b * 2 ^ k ≤ 255 * 2 ^ 24 := Nat.mul_le_mul (by omega) h1
  rw [i64_or_nat a _ (by omega) (by omega)]
  congr 1
  rw [Nat.mul_comm b, Nat.add_comm a, Nat.two_pow_add_eq_or_of_lt ha, Nat.or_comm]
theorem le4 {bs : List Int} (hb : Byt bs) (h : 4 ≤ bs.length) : ∃ a b c d : Nat, a < 256 ∧ b < 256 ∧ c < 256 ∧ d < 256 ∧ bs.getD 0 0 = a ∧ bs.getD 1 0 = b ∧ bs.getD 2 0 = c ∧ bs.getD 3 0 = d ∧ leN (bs.take 4) = a + b * 2 ^ 8 + c * 2 ^ 16 + d * 2 ^ 24 := by
  match bs, h with
  | x0 :: x1 :: x2 :: x3 :: t, _ =>
    obtain ⟨a, rfl⟩ := Int.eq_ofNat_of_zero_le (hb x0 (by simp)).1
    obtain ⟨b, rfl⟩ := Int.eq_ofNat_of_zero_le (hb x1 (by simp)).1
    obtain ⟨c, rfl⟩ := Int.eq_ofNat_of_zero_le (hb x2 (by simp)).1
    obtain ⟨d, rfl⟩ := Int.eq_ofNat_of_zero_le (hb x3 (by simp)).1
    have h0 := (hb _ (show ((a : Nat) : Int) ∈ _ from by simp)).2
    have h1 := (hb _ (show ((b : Nat) : Int) ∈ _ from by simp)).2
    have h2 := (hb _ (show ((c : Nat) : Int) ∈ _ from by simp)).2
    have h3 := (hb _ (show ((d : Nat) : Int) ∈ _ from by simp)).2
    refine ⟨a, b, c, d, by omega, by omega, by omega, by omega, rfl, rfl, rfl, rfl, ?_⟩
    simp [leN]
    omega
theorem bytesOf_eq {xs ys : List Int} (hx : Byt xs) (hy : Byt ys) : (Lib.bytesOf xs == Lib.bytesOf ys) = decide (xs = ys) := by
  by_cases h : xs = ys
  · rw [h, beq_self_eq_true, decide_eq_true rfl]
  · rw [decide_eq_false h]
    refine beq_eq_false_iff_ne.2 fun e => h ?_
    have e2 : kOf xs = kOf ys := e
    rw [← kb_kOf hx, ← kb_kOf hy, e2]
/-- what 'frame' answers -/
def FrmPost (bs : List Int) (q : Option Addr) (w : World) (e : Ending) (w' : World) : Prop := Below w.heap.size w w' ∧
  ((rdFrm bs = none ∧ ∃ v, e = .returned (.tuple #[v, .bool false])) ∨
    ∃ (b : List Int) (p : Option Addr) (c : Nat), rdFrm bs = some b ∧ e = .returned (.tuple #[.slice p b.length c, .bool true]) ∧ Lib.BytesIn w' p b.length b ∧ b.length ≤ c ∧ c ≤ 9223372036854775807)
set_option maxHeartbeats 6400000 in
theorem pframe (bs : List Int) (q : Option Addr) (c : Nat) (w : World) (G : Glob w) (hy : Lib.BytesIn w q bs.length bs) (hb : Byt bs) (hc : bs.length ≤ c) (hcm : c ≤ 9223372036854775807) (hl : bs.length ≤ 140737488351232) :
    Calls Tryz.prog 34 #[.slice q bs.length c] w (FrmPost bs q w) := by
  have HY := Lib.hid (And.intro hy (And.intro hb (And.intro hc (And.intro hcm (And.intro hl G)))))
  by_cases h12 : bs.length < 12
  · have hn : rdFrm bs = none := by unfold rdFrm; rw [if_pos h12]
    have HN := Lib.hid hn
    clear hy hb hn HY G
    generalize bs.length = n at *
    have m1 : decide ((n : Int) < 12) = true := decide_eq_true (by omega)
    go_enter Tryz.func34, Tryz.ntmps34
    go_wp2
    exact bodyPost_ret (results_tmp2 Tryz.results34 _ _ _) rfl ⟨Below.refl _ _, .inl ⟨HN.out, _, rfl⟩⟩
  · obtain ⟨x0, x1, x2, x3, r0, r1, r2, r3, g0, g1, g2, g3, hle⟩ := le4 hb (by omega)
    obtain ⟨b, o, rfl, hcell⟩ := hy.at (by omega)
    have c0 := hcell 0 (by omega)
    have c1 := hcell 1 (by omega)
    have c2 := hcell 2 (by omega)
    have c3 := hcell 3 (by omega)
    rw [g0, Nat.add_zero] at c0
    rw [g1] at c1
    rw [g2] at c2
    rw [g3] at c3
    have s1 : IntKind.i64.wrap ((x1 : Int) * 256) = ((x1 * 2 ^ 8 : Nat) : Int) := by rw [IntWalk.i64_in _ (by omega)]; omega
    have s2 : IntKind.i64.wrap ((x2 : Int) * 65536) = ((x2 * 2 ^ 16 : Nat) : Int) := by rw [IntWalk.i64_in _ (by omega)]; omega
    have s3 : IntKind.i64.wrap ((x3 : Int) * 16777216) = ((x3 * 2 ^ 24 : Nat) : Int) := by rw [IntWalk.i64_in _ (by omega)]; omega
    have t0 : IntKind.i64.wrap (x0 : Int) = (x0 : Int) := IntWalk.i64_in _ (by omega)
    have t1 : IntKind.i64.wrap (x1 : Int) = (x1 : Int) := IntWalk.i64_in _ (by omega)
    have t2 : IntKind.i64.wrap (x2 : Int) = (x2 : Int) := IntWalk.i64_in _ (by omega)
    have t3 : IntKind.i64.wrap (x3 : Int) = (x3 : Int) := IntWalk.i64_in _ (by omega)
    have o1 := or_up x0 x1 8 (by omega) (by decide) r1
    have o2 := or_up (x0 + x1 * 2 ^ 8) x2 16 (by omega) (by decide) r2
    have o3 := or_up (x0 + x1 * 2 ^ 8 + x2 * 2 ^ 16) x3 24 (by omega) (by decide) r3
    rw [← hle] at o3
    have hNs : leN (bs.take 4) < 2 ^ 32 := by omega
    obtain ⟨N, hN⟩ : ∃ N, N = leN (bs.take 4) := ⟨_, rfl⟩
    rw [← hN] at o3 hNs
    obtain ⟨y1, hy1⟩ : ∃ y1, y1 = x1 * 2 ^ 8 := ⟨_, rfl⟩
    obtain ⟨y2, hy2⟩ : ∃ y2, y2 = x2 * 2 ^ 16 := ⟨_, rfl⟩
    obtain ⟨y3, hy3⟩ : ∃ y3, y3 = x3 * 2 ^ 24 := ⟨_, rfl⟩
    rw [← hy1] at s1 o1 o2 o3
    rw [← hy2] at s2 o2 o3
    rw [← hy3] at s3 o3
    obtain ⟨z1, hz1⟩ : ∃ z1, z1 = x0 + y1 := ⟨_, rfl⟩
    rw [← hz1] at o1 o2 o3
    obtain ⟨z2, hz2⟩ : ∃ z2, z2 = z1 + y2 := ⟨_, rfl⟩
    rw [← hz2] at o2 o3
    have HN := Lib.hid hN
    clear hN hy1 hy2 hy3 hz1 hz2 hle g0 g1 g2 g3 hcell hy hb
    obtain ⟨n, hn⟩ : ∃ n, n = bs.length := ⟨_, rfl⟩
    rw [← hn] at h12 hc hl ⊢
    have HNN := Lib.hid hn
    clear hn G
    have m1 : decide ((n : Int) < 12) = false := decide_eq_false (by omega)
    have n1 : (1 : Int) < (n : Int) := by omega
    have n2 : (2 : Int) < (n : Int) := by omega
    have n3 : (3 : Int) < (n : Int) := by omega
    have n0 : 0 < n := by omega
    go_enter Tryz.func34, Tryz.ntmps34
    go_upto_region 3 with fail
    refine wp_region_held_drew (S := fun w' => w'.cell? ⟨b, o, none⟩ = some (.int .u8 (x0 : Int)) ∧ w'.cell? ⟨b, o + 1, none⟩ = some (.int .u8 (x1 : Int)) ∧ w'.cell? ⟨b, o + 2, none⟩ = some (.int .u8 (x2 : Int)) ∧ w'.cell? ⟨b, o + 3, none⟩ = some (.int .u8 (x3 : Int))) (by kernel_rfl) ⟨c0, c1, c2, c3⟩ (fun hS => ?_)
    refine tkH 0 (v := ?_) rfl (by kernel_rfl) ⟨by rfl, ?_⟩ hS ?_
    rotate_left
    · intro w0 hs; obtain ⟨h1, h2, h3, h4⟩ := hs; go_simp; try (with_reducible rfl)
    try simp only [Act.put, List.setIfInBounds_toArray, List.set_cons_zero, List.set_cons_succ]
    refine tkH 1 (v := ?_) rfl (by kernel_rfl) ⟨by rfl, ?_⟩ hS ?_
    rotate_left
    · intro w0 hs; obtain ⟨h1, h2, h3, h4⟩ := hs; go_simp; try (with_reducible rfl)
    try simp only [Act.put, List.setIfInBounds_toArray, List.set_cons_zero, List.set_cons_succ]
    refine tkH 2 (v := ?_) rfl (by kernel_rfl) ⟨by rfl, ?_⟩ hS ?_
    rotate_left
    · intro w0 hs; obtain ⟨h1, h2, h3, h4⟩ := hs; go_simp; try (with_reducible rfl)
    try simp only [Act.put, List.setIfInBounds_toArray, List.set_cons_zero, List.set_cons_succ]
    refine tkH 3 (v := ?_) rfl (by kernel_rfl) ⟨by rfl, ?_⟩ hS ?_
    rotate_left
    · intro w0 hs; obtain ⟨h1, h2, h3, h4⟩ := hs; go_simp; try (with_reducible rfl)
    try simp only [Act.put, List.setIfInBounds_toArray, List.set_cons_zero, List.set_cons_succ]
    refine tkH 4 (v := ?_) rfl (by kernel_rfl) ⟨by rfl, ?_⟩ hS ?_
    rotate_left
    · intro w0 hs; obtain ⟨h1, h2, h3, h4⟩ := hs; go_simp; try (with_reducible rfl)
    try simp only [Act.put, List.setIfInBounds_toArray, List.set_cons_zero, List.set_cons_succ]
    refine tkH 5 (v := ?_) rfl (by kernel_rfl) ⟨by rfl, ?_⟩ hS ?_
    rotate_left
    · intro w0 hs; obtain ⟨h1, h2, h3, h4⟩ := hs; go_simp; try (with_reducible rfl)
    try simp only [Act.put, List.setIfInBounds_toArray, List.set_cons_zero, List.set_cons_succ]
    refine tkH 6 (v := ?_) rfl (by kernel_rfl) ⟨by rfl, ?_⟩ hS ?_
    rotate_left
    · intro w0 hs; obtain ⟨h1, h2, h3, h4⟩ := hs; go_simp; try (with_reducible rfl)
    try simp only [Act.put, List.setIfInBounds_toArray, List.set_cons_zero, List.set_cons_succ]
    refine tkH 7 (v := ?_) rfl (by kernel_rfl) ⟨by rfl, ?_⟩ hS ?_
    rotate_left
    · intro w0 hs; obtain ⟨h1, h2, h3, h4⟩ := hs; go_simp; try (with_reducible rfl)
    try simp only [Act.put, List.setIfInBounds_toArray, List.set_cons_zero, List.set_cons_succ]
    refine tkH 8 (v := ?_) rfl (by kernel_rfl) ⟨by rfl, ?_⟩ hS ?_
    rotate_left
    · intro w0 hs; obtain ⟨h1, h2, h3, h4⟩ := hs; go_simp; try (with_reducible rfl)
    try simp only [Act.put, List.setIfInBounds_toArray, List.set_cons_zero, List.set_cons_succ]
    refine tkH 9 (v := ?_) rfl (by kernel_rfl) ⟨by rfl, ?_⟩ hS ?_
    rotate_left
    · intro w0 hs; obtain ⟨h1, h2, h3, h4⟩ := hs; go_simp; try (with_reducible rfl)
    try simp only [Act.put, List.setIfInBounds_toArray, List.set_cons_zero, List.set_cons_succ]
    refine tkH 10 (v := ?_) rfl (by kernel_rfl) ⟨by rfl, ?_⟩ hS ?_
    rotate_left
    · intro w0 hs; obtain ⟨h1, h2, h3, h4⟩ := hs; go_simp; try (with_reducible rfl)
    try simp only [Act.put, List.setIfInBounds_toArray, List.set_cons_zero, List.set_cons_succ]
    refine tkH 11 (v := ?_) rfl (by kernel_rfl) ⟨by rfl, ?_⟩ hS ?_
    rotate_left
    · intro w0 hs; obtain ⟨h1, h2, h3, h4⟩ := hs; go_simp; try (with_reducible rfl)
    try simp only [Act.put, List.setIfInBounds_toArray, List.set_cons_zero, List.set_cons_succ]
    refine tkH 12 (v := ?_) rfl (by kernel_rfl) ⟨by rfl, ?_⟩ hS ?_
    rotate_left
    · intro w0 hs; obtain ⟨h1, h2, h3, h4⟩ := hs; go_simp; try (with_reducible rfl)
    try simp only [Act.put, List.setIfInBounds_toArray, List.set_cons_zero, List.set_cons_succ]
    refine tkH 13 (v := ?_) rfl (by kernel_rfl) ⟨by rfl, ?_⟩ hS ?_
    rotate_left
    · intro w0 hs; obtain ⟨h1, h2, h3, h4⟩ := hs; go_simp; try (with_reducible rfl)
    try simp only [Act.put, List.setIfInBounds_toArray, List.set_cons_zero, List.set_cons_succ]
    refine tkH 14 (v := ?_) rfl (by kernel_rfl) ⟨by rfl, ?_⟩ hS ?_
    rotate_left
    · intro w0 hs; obtain ⟨h1, h2, h3, h4⟩ := hs; go_simp; try (with_reducible rfl)
    try simp only [Act.put, List.setIfInBounds_toArray, List.set_cons_zero, List.set_cons_succ]
    refine tkH 15 (v := ?_) rfl (by kernel_rfl) ⟨by rfl, ?_⟩ hS ?_
    rotate_left
    · intro w0 hs; obtain ⟨h1, h2, h3, h4⟩ := hs; go_simp; try (with_reducible rfl)
    try simp only [Act.put, List.setIfInBounds_toArray, List.set_cons_zero, List.set_cons_succ]
    refine tkH 16 (v := ?_) rfl (by kernel_rfl) ⟨by rfl, ?_⟩ hS ?_
    rotate_left
    · intro w0 hs; obtain ⟨h1, h2, h3, h4⟩ := hs; go_simp; try (with_reducible rfl)
    try simp only [Act.put, List.setIfInBounds_toArray, List.set_cons_zero, List.set_cons_succ]
    refine tkH 17 (v := ?_) rfl (by kernel_rfl) ⟨by rfl, ?_⟩ hS ?_
    rotate_left
    · intro w0 hs; obtain ⟨h1, h2, h3, h4⟩ := hs; go_simp; try (with_reducible rfl)
    try simp only [Act.put, List.setIfInBounds_toArray, List.set_cons_zero, List.set_cons_succ]
    refine tkH 18 (v := ?_) rfl (by kernel_rfl) ⟨by rfl, ?_⟩ hS ?_
    rotate_left
    · intro w0 hs; obtain ⟨h1, h2, h3, h4⟩ := hs; go_simp; try (with_reducible rfl)
    try simp only [Act.put, List.setIfInBounds_toArray, List.set_cons_zero, List.set_cons_succ]
    refine tkH 19 (v := ?_) rfl (by kernel_rfl) ⟨by rfl, ?_⟩ hS ?_
    rotate_left
    · intro w0 hs; obtain ⟨h1, h2, h3, h4⟩ := hs; go_simp; try (with_reducible rfl)
    try simp only [Act.put, List.setIfInBounds_toArray, List.set_cons_zero, List.set_cons_succ]
    refine tkH 20 (v := ?_) rfl (by kernel_rfl) ⟨by rfl, ?_⟩ hS ?_
    rotate_left
    · intro w0 hs; obtain ⟨h1, h2, h3, h4⟩ := hs; go_simp; try (with_reducible rfl)
    try simp only [Act.put, List.setIfInBounds_toArray, List.set_cons_zero, List.set_cons_succ]
    refine tkH 21 (v := ?_) rfl (by kernel_rfl) ⟨by rfl, ?_⟩ hS ?_
    rotate_left
    · intro w0 hs; obtain ⟨h1, h2, h3, h4⟩ := hs; go_simp; try (with_reducible rfl)
    try simp only [Act.put, List.setIfInBounds_toArray, List.set_cons_zero, List.set_cons_succ]
    refine tkH 22 (v := ?_) rfl (by kernel_rfl) ⟨by rfl, ?_⟩ hS ?_
    rotate_left
    · intro w0 hs; obtain ⟨h1, h2, h3, h4⟩ := hs; go_simp; try (with_reducible rfl)
    try simp only [Act.put, List.setIfInBounds_toArray, List.set_cons_zero, List.set_cons_succ]
    refine wpAnyH_done (by kernel_rfl) ?_ _
    have hrd : rdFrm bs = if 1048576 < N ∨ n - 12 < N then none else if headB ((bs.drop 12).take N) = bs.take 12 then some ((bs.drop 12).take N) else none := by
      unfold rdFrm
      rw [← HN.out, ← HNN.out, if_neg h12]
    have HRD := Lib.hid hrd
    clear c0 c1 c2 c3 s1 s2 s3 t0 t1 t2 t3 o1 o2 o3 hS hrd r0 r1 r2 r3
    have w1 : IntKind.i64.wrap ((n : Int) - 12) = (n : Int) - 12 := IntWalk.i64_in _ (by omega)
    have w2 : IntKind.i64.wrap (12 + (N : Int)) = 12 + (N : Int) := IntWalk.i64_in _ (by omega)
    by_cases hA : 1048576 < N
    · have hn : rdFrm bs = none := by rw [HRD.out, if_pos (.inl hA)]
      have HNO := Lib.hid hn
      clear hn
      have m2 : (1048576 : Int) < (N : Int) := by omega
      go_wp2
      exact bodyPost_ret (results_tmp2 Tryz.results34 _ _ _) rfl ⟨(Below.refl _ _).drew, .inl ⟨HNO.out, _, rfl⟩⟩
    · have m2 : decide ((1048576 : Int) < (N : Int)) = false := decide_eq_false (by omega)
      by_cases hB : n - 12 < N
      · have hn : rdFrm bs = none := by rw [HRD.out, if_pos (.inr hB)]
        have HNO := Lib.hid hn
        clear hn
        have m3 : (n : Int) - 12 < (N : Int) := by omega
        go_wp2
        exact bodyPost_ret (results_tmp2 Tryz.results34 _ _ _) rfl ⟨(Below.refl _ _).drew, .inl ⟨HNO.out, _, rfl⟩⟩
      · have hn : rdFrm bs = if headB ((bs.drop 12).take N) = bs.take 12 then some ((bs.drop 12).take N) else none := by rw [HRD.out, if_neg (by omega)]
        have HNO := Lib.hid hn
        clear hn HRD
        have m3 : decide ((n : Int) - 12 < (N : Int)) = false := decide_eq_false (by omega)
        have hlb : ((bs.drop 12).take N).length = N := by rw [List.length_take, List.length_drop, ← HNN.out]; omega
        have HLB := Lib.hid hlb
        have k1 : 12 + (N : Int) ≤ (c : Int) := by omega
        have k2 : (12 : Int) ≤ (c : Int) := by omega
        have hlt12 : (bs.take 12).length = 12 := by rw [List.length_take, ← HNN.out]; omega
        have hb12 : ∀ w', Below w.heap.size w w' → Lib.BytesIn w' (some ⟨b, o, none⟩) (bs.take 12).length (bs.take 12) := fun w' hw' => by
          have hyy := bytes_keep HY.out.1 (Keep.of_below (X := fun _ => False) hw') (fun _ _ _ h => h)
          rw [hlt12]
          intro h0
          obtain ⟨b', o', e1, hcc⟩ := hyy.at (by rw [← HNN.out]; omega)
          cases e1
          exact ⟨b, o, rfl, fun i hi => by rw [hcc i (by rw [← HNN.out]; omega)]; simp [List.getD_eq_getElem?_getD, List.getElem?_take, hi]⟩
        have hbod : ∀ p, (0 < N → p = some (⟨b, o + 12, none⟩ : Addr)) → ∀ w', Below w.heap.size w w' → Lib.BytesIn w' p ((bs.drop 12).take N).length ((bs.drop 12).take N) := fun p hp w' hw' => by
          have hyy := bytes_keep HY.out.1 (Keep.of_below (X := fun _ => False) hw') (fun _ _ _ h => h)
          rw [hlb]
          intro h0
          obtain ⟨b', o', e1, hcc⟩ := hyy.at (by rw [← HNN.out]; omega)
          cases e1
          refine ⟨b, o + 12, hp h0, fun i hi => ?_⟩
          rw [Nat.add_assoc, hcc (12 + i) (by rw [← HNN.out]; omega)]
          simp [List.getD_eq_getElem?_getD, List.getElem?_take, hi]
        have hbb : Byt ((bs.drop 12).take N) := (HY.out.2.1.drop 12).take N
        have HBB := Lib.hid (And.intro hbb (And.intro hb12 hbod))
        have HL12 := Lib.hid hlt12
        obtain ⟨body, hbody⟩ : ∃ body, body = (bs.drop 12).take N := ⟨_, rfl⟩
        rw [← hbody] at HBB HNO HLB
        clear hbb hb12 hbod hbody hlb hlt12
        by_cases hc12 : c = 12
        · obtain rfl : N = 0 := by omega
          obtain rfl := hc12
          have PH : ∀ w', Below w.heap.size w w' → Calls Tryz.prog 44 #[.slice (some ⟨b, o, none⟩) 0 0] w' fun e w'' => ∃ p c' o, e = .returned (.slice p 12 c') ∧ Row w'' 5 (.slice p 12 c') (headB body) o ∧ (∀ g, o = some g → w'.heap.size ≤ g) ∧ Below w'.heap.size w' w'' := fun w' hw' => by
            have := phead body (some ⟨b, o, none⟩) (0) w' (HY.out.2.2.2.2.2.below hw') (HBB.out.2.2 _ (fun h => absurd h (Nat.lt_irrefl 0)) w' hw') HBB.out.1 (by rw [HLB.out]; omega) (by rw [HLB.out]; omega)
            rw [HLB.out] at this
            exact this
          have PH := Lib.hid PH
          have HBP := Lib.hid (HBB.out.2.2 (some ⟨b, o, none⟩) (fun h => absurd h (Nat.lt_irrefl 0)))
          go_upto_region 7 with fail
          refine wp_region_held_drew (S := fun w' => Below w.heap.size w w') (by kernel_rfl) (((Below.refl _ _).drew).drew) (fun hS => ?_)
          refine tkH 0 (v := ?_) rfl (by kernel_rfl) ⟨by rfl, ?_⟩ hS ?_
          rotate_left
          · intro w0 hs; clear hs; go_simp; try (with_reducible rfl)
          try simp only [Act.put, List.setIfInBounds_toArray, List.set_cons_zero, List.set_cons_succ]
          refine tkH 1 (v := ?_) rfl (by kernel_rfl) ⟨by rfl, ?_⟩ hS ?_
          rotate_left
          · intro w0 hs; clear hs; go_simp; try (with_reducible rfl)
          try simp only [Act.put, List.setIfInBounds_toArray, List.set_cons_zero, List.set_cons_succ]
          refine tkH 3 (v := ?_) rfl (by kernel_rfl) ⟨by rfl, ?_⟩ hS ?_
          rotate_left
          · intro w0 hs; clear hs; go_simp; try (with_reducible rfl)
          try simp only [Act.put, List.setIfInBounds_toArray, List.set_cons_zero, List.set_cons_succ]
          refine tkH 4 (v := ?_) rfl (by kernel_rfl) ⟨by rfl, ?_⟩ hS ?_
          rotate_left
          · intro w0 hs; clear hs; go_simp; try (with_reducible rfl)
          try simp only [Act.put, List.setIfInBounds_toArray, List.set_cons_zero, List.set_cons_succ]
          refine wpAnyH_ready (rs := [2]) (by kernel_rfl) (by simp) ?_
          refine AllReadyH.cons (o := ⟨_, _, _, _, _, _⟩) rfl (fun K hK => ?_) AllReadyH.nil
          rw [if_pos (by rfl)]
          go_step
          refine (PH.out _ hS).mono ?_
          rintro e v1 ⟨p2, c2, o2, rfl, R2, ho2, hb1⟩
          simp only []
          refine hK.out _ _ (hS.trans (hb1.mono hS.size)) (fun hS' => ?_)
          clear hS hK
          have hS := hS'; clear hS'
          try simp only [Act.put, List.setIfInBounds_toArray, List.set_cons_zero, List.set_cons_succ]
          refine wpAnyH_ready (rs := [5]) (by kernel_rfl) (by simp) ?_
          refine AllReadyH.cons (o := ⟨_, _, _, _, _, _⟩) rfl (fun K hK => ?_) AllReadyH.nil
          rw [if_pos (by rfl)]
          go_step
          have PE := Tryz.bytes_Equal_all p2 (some ⟨b, o, none⟩) 12 c2 12 12 (headB body) (bs.take 12) v1 (headB_len _) HL12.out (by obtain ⟨_, _, e2, hy2, _⟩ := R2.form; cases e2; rw [headB_len] at hy2; exact hy2) (by have := HBB.out.2.1 v1 hS; rw [HL12.out] at this; exact this)
          refine PE.mono ?_
          rintro e v2 ⟨rfl, rfl⟩
          simp only []
          refine hK.out _ _ hS (fun hS' => ?_)
          clear hS hK
          have hS := hS'; clear hS'
          try simp only [Act.put, List.setIfInBounds_toArray, List.set_cons_zero, List.set_cons_succ]
          refine tkH 6 (v := ?_) rfl (by kernel_rfl) ⟨by rfl, ?_⟩ hS ?_
          rotate_left
          · intro w0 hs; clear hs; go_simp; try (with_reducible rfl)
          try simp only [Act.put, List.setIfInBounds_toArray, List.set_cons_zero, List.set_cons_succ]
          refine tkH 7 (v := ?_) rfl (by kernel_rfl) ⟨by rfl, ?_⟩ hS ?_
          rotate_left
          · intro w0 hs; clear hs; go_simp; try (with_reducible rfl)
          try simp only [Act.put, List.setIfInBounds_toArray, List.set_cons_zero, List.set_cons_succ]
          refine wpAnyH_done (by kernel_rfl) ?_ _
          go_wp2
          refine bodyPost_ret (results_tmp2 Tryz.results34 _ _ _) rfl ⟨hS, ?_⟩
          by_cases he : headB body = bs.take 12
          · refine .inr ⟨body, some ⟨b, o, none⟩, 0, by rw [HNO.out, if_pos he], ?_, HBP.out _ hS, by rw [HLB.out]; omega, by omega⟩
            rw [HLB.out]
            show Ending.returned (.tuple #[_, .bool (_ == _)]) = _
            rw [bytesOf_eq (headB_byt _) (HY.out.2.1.take 12), decide_eq_true he]; rfl
          · refine .inl ⟨by rw [HNO.out, if_neg he], .slice (some ⟨b, o, none⟩) 0 (0), ?_⟩
            show Ending.returned (.tuple #[_, .bool (_ == _)]) = _
            rw [bytesOf_eq (headB_byt _) (HY.out.2.1.take 12), decide_eq_false he]; rfl
        · have PH : ∀ w', Below w.heap.size w w' → Calls Tryz.prog 44 #[.slice (some ⟨b, o + 12, none⟩) N (c - 12)] w' fun e w'' => ∃ p c' o, e = .returned (.slice p 12 c') ∧ Row w'' 5 (.slice p 12 c') (headB body) o ∧ (∀ g, o = some g → w'.heap.size ≤ g) ∧ Below w'.heap.size w' w'' := fun w' hw' => by
            have := phead body (some ⟨b, o + 12, none⟩) ((c - 12)) w' (HY.out.2.2.2.2.2.below hw') (HBB.out.2.2 _ (fun _ => rfl) w' hw') HBB.out.1 (by rw [HLB.out]; omega) (by rw [HLB.out]; omega)
            rw [HLB.out] at this
            exact this
          have PH := Lib.hid PH
          have HBP := Lib.hid (HBB.out.2.2 (some ⟨b, o + 12, none⟩) (fun _ => rfl))
          go_upto_region 7 with fail
          refine wp_region_held_drew (S := fun w' => Below w.heap.size w w') (by kernel_rfl) (((Below.refl _ _).drew).drew) (fun hS => ?_)
          refine tkH 0 (v := ?_) rfl (by kernel_rfl) ⟨by rfl, ?_⟩ hS ?_
          rotate_left
          · intro w0 hs; clear hs; go_simp; try (with_reducible rfl)
          try simp only [Act.put, List.setIfInBounds_toArray, List.set_cons_zero, List.set_cons_succ]
          refine tkH 1 (v := ?_) rfl (by kernel_rfl) ⟨by rfl, ?_⟩ hS ?_
          rotate_left
          · intro w0 hs; clear hs; go_simp; try (with_reducible rfl)
          try simp only [Act.put, List.setIfInBounds_toArray, List.set_cons_zero, List.set_cons_succ]
          refine tkH 3 (v := ?_) rfl (by kernel_rfl) ⟨by rfl, ?_⟩ hS ?_
          rotate_left
          · intro w0 hs; clear hs; go_simp; try (with_reducible rfl)
          try simp only [Act.put, List.setIfInBounds_toArray, List.set_cons_zero, List.set_cons_succ]
          refine tkH 4 (v := ?_) rfl (by kernel_rfl) ⟨by rfl, ?_⟩ hS ?_
          rotate_left
          · intro w0 hs; clear hs; go_simp; try (with_reducible rfl)
          try simp only [Act.put, List.setIfInBounds_toArray, List.set_cons_zero, List.set_cons_succ]
          refine wpAnyH_ready (rs := [2]) (by kernel_rfl) (by simp) ?_
          refine AllReadyH.cons (o := ⟨_, _, _, _, _, _⟩) rfl (fun K hK => ?_) AllReadyH.nil
          rw [if_pos (by rfl)]
          go_step
          refine (PH.out _ hS).mono ?_
          rintro e v1 ⟨p2, c2, o2, rfl, R2, ho2, hb1⟩
          simp only []
          refine hK.out _ _ (hS.trans (hb1.mono hS.size)) (fun hS' => ?_)
          clear hS hK
          have hS := hS'; clear hS'
          try simp only [Act.put, List.setIfInBounds_toArray, List.set_cons_zero, List.set_cons_succ]
          refine wpAnyH_ready (rs := [5]) (by kernel_rfl) (by simp) ?_
          refine AllReadyH.cons (o := ⟨_, _, _, _, _, _⟩) rfl (fun K hK => ?_) AllReadyH.nil
          rw [if_pos (by rfl)]
          go_step
          have PE := Tryz.bytes_Equal_all p2 (some ⟨b, o, none⟩) 12 c2 12 c (headB body) (bs.take 12) v1 (headB_len _) HL12.out (by obtain ⟨_, _, e2, hy2, _⟩ := R2.form; cases e2; rw [headB_len] at hy2; exact hy2) (by have := HBB.out.2.1 v1 hS; rw [HL12.out] at this; exact this)
          refine PE.mono ?_
          rintro e v2 ⟨rfl, rfl⟩
          simp only []
          refine hK.out _ _ hS (fun hS' => ?_)
          clear hS hK
          have hS := hS'; clear hS'
          try simp only [Act.put, List.setIfInBounds_toArray, List.set_cons_zero, List.set_cons_succ]
          refine tkH 6 (v := ?_) rfl (by kernel_rfl) ⟨by rfl, ?_⟩ hS ?_
          rotate_left
          · intro w0 hs; clear hs; go_simp; try (with_reducible rfl)
          try simp only [Act.put, List.setIfInBounds_toArray, List.set_cons_zero, List.set_cons_succ]
          refine tkH 7 (v := ?_) rfl (by kernel_rfl) ⟨by rfl, ?_⟩ hS ?_
          rotate_left
          · intro w0 hs; clear hs; go_simp; try (with_reducible rfl)
          try simp only [Act.put, List.setIfInBounds_toArray, List.set_cons_zero, List.set_cons_succ]
          refine wpAnyH_done (by kernel_rfl) ?_ _
          go_wp2
          refine bodyPost_ret (results_tmp2 Tryz.results34 _ _ _) rfl ⟨hS, ?_⟩
          by_cases he : headB body = bs.take 12
          · refine .inr ⟨body, some ⟨b, o + 12, none⟩, (c - 12), by rw [HNO.out, if_pos he], ?_, HBP.out _ hS, by rw [HLB.out]; omega, by omega⟩
            rw [HLB.out]
            show Ending.returned (.tuple #[_, .bool (_ == _)]) = _
            rw [bytesOf_eq (headB_byt _) (HY.out.2.1.take 12), decide_eq_true he]; rfl
          · refine .inl ⟨by rw [HNO.out, if_neg he], .slice (some ⟨b, o + 12, none⟩) N ((c - 12)), ?_⟩
            show Ending.returned (.tuple #[_, .bool (_ == _)]) = _
            rw [bytesOf_eq (headB_byt _) (HY.out.2.1.take 12), decide_eq_false he]; rfl
end Go.Proofs.YtbjbjgfjaopibaaGreatDoor
end

section
/- Maps with keys of any kind that has a law, told by a function on the keys' values. No program in sight. -/
namespace Go.Proofs.YtbjbjgfjaopibaaGreatDoor
open Go Go.RowKit Go.Maps Go.ChangeMaps

/-- block b is a map with keys of type k, of n entries; f tells what is at a key -/
def KMap (P : Program) (k : TypeId) (w : World) (b : Nat) (f : Value → Option Value) (n : Nat) : Prop :=
  ∃ D : DataW Value, w.ownsMap P k RV b n D ∧ Maps.size D = n ∧ ∀ x l, keyOf P k x = some l → Maps.has D l = (f x).isSome ∧ ∀ v, f x = some v → ∀ z, D.atKey l z = .held v
section
variable {P : Program} {k : TypeId} {w w' : World} {b n : Nat} {f : Value → Option Value} {D : DataW Value}
theorem KMap.made (w : World) (P : Program) (k : TypeId) : KMap P k (w.alloc (.map #[] 0)) w.heap.size (fun _ => none) 0 :=
  ⟨_, World.ownsMap_made w P k RV, rfl, fun x l _ => ⟨rfl, fun v hv => by cases hv⟩⟩
theorem KMap.lt (h : KMap P k w b f n) : b < w.heap.size := by obtain ⟨D, h1, _⟩ := h; exact h1.lt
theorem KMap.keep {X : Nat → Prop} (h : KMap P k w b f n) (hk : Keep X w w') (hn : ¬ X b) : KMap P k w' b f n := by
  obtain ⟨D, h1, h2⟩ := h
  have hl := h1.lt
  obtain ⟨es, clock, hb, r⟩ := h1
  exact ⟨D, ⟨es, clock, (hk.block b hl hn).trans hb, r⟩, h2⟩
theorem KMap.drew (h : KMap P k w b f n) : KMap P k w.drew b f n := h
theorem KMap.at (h : KMap P k w b f n) {x : Value} {l : Lit} (hx : keyOf P k x = some l) : ∃ D : DataW Value, w.ownsMap P k RV b n D ∧ (∀ z, D.atKey l (.held z) = .held ((f x).getD z)) ∧ Maps.has D l = (f x).isSome := by
  obtain ⟨D, h1, h2, h3⟩ := h
  obtain ⟨e1, e2⟩ := h3 x l hx
  refine ⟨D, h1, fun z => ?_, e1⟩
  cases hf : f x with
  | none =>
    rw [hf] at e1
    exact atKey_of_not_has e1 _
  | some v => exact e2 v hf _
/-- 'm[k]' -/
theorem KMap.look (h : KMap P k w b f n) {t e : TypeId} (K : Keyed P k) (ht : P.underlying t = some (.map k e)) {z : Value} (hz : (zeroValue e).run P w = .ok z w) {x : Value} {l : Lit} (hx : keyOf P k x = some l) :
    (Instr.lookup t (.map (some b)) x false).run P w = .ok ((f x).getD z) w := by
  obtain ⟨D, h1, h2, _⟩ := h.at hx
  obtain ⟨v, ps, hrun, hv⟩ := h1.lookup K ht hz (R := RV) (zd := .held z) (zp := []) rfl hx
  have e1 := RV_inv hv
  rw [h2 z] at e1
  rw [hrun]
  injection e1 with e1
  rw [e1]
/-- 'v, ok := m[k]' -/
theorem KMap.lookOk (h : KMap P k w b f n) {t e : TypeId} (K : Keyed P k) (ht : P.underlying t = some (.map k e)) {z : Value} (hz : (zeroValue e).run P w = .ok z w) {x : Value} {l : Lit} (hx : keyOf P k x = some l) :
    (Instr.lookup t (.map (some b)) x true).run P w = .ok (.tuple #[(f x).getD z, .bool (f x).isSome]) w := by
  obtain ⟨D, h1, h2, h3⟩ := h.at hx
  obtain ⟨v, ps, hrun, hv⟩ := h1.look_ok K ht hz (R := RV) (zd := .held z) (zp := []) rfl hx
  have e1 := RV_inv hv
  rw [h2 z] at e1
  rw [hrun, h3]
  injection e1 with e1
  rw [e1]
/-- 'len(m)' -/
theorem KMap.len (h : KMap P k w b f n) {t e : TypeId} (ht : P.underlying t = some (.map k e)) (ty : TypeId) : (Builtin.len_ #[t] ty #[.map (some b)]).run P w = .ok (.int .i64 (n : Int)) w := by
  obtain ⟨D, h1, h2, _⟩ := h
  rw [h1.len ht ty, h2]
/-- 'm[k] = v' -/
theorem KMap.store (h : KMap P k w b f n) {t e : TypeId} (K : Keyed P k) (ht : P.underlying t = some (.map k e)) (hn : n < maxLen) {x : Value} {l : Lit} (hx : keyOf P k x = some l) (v : Value) (f' : Value → Option Value) (hs : f' x = some v) (ho : ∀ y, y ≠ x → f' y = f y) :
    ∃ w', (Instr.mapUpdate t (.map (some b)) x v).run P w = .ok () w' ∧ KMap P k w' b f' (if (f x).isSome then n else n + 1) ∧ Keep (fun k => k = b) w w' := by
  obtain ⟨D, h1, h2, h3⟩ := h
  obtain ⟨w1, hrun, r1, r2⟩ := h1.store K ht hn (R := RV) (d := .held v) (ps := []) hx rfl
  have hsz := size_put (k := l) (h1.tidy K) (.held v : DataW Value)
  rw [(h3 x l hx).1, h2] at hsz
  refine ⟨w1, hrun, ⟨D.put l (.held v), ?_, hsz, fun y ly hy => ?_⟩, Keep.of_turned r2⟩
  · have := ownsMap_tight r1
    rw [hsz] at this
    exact this
  · by_cases hyx : y = x
    · subst hyx
      obtain rfl : ly = l := Option.some.inj (hy.symm.trans hx)
      rw [hs]
      refine ⟨has_put_same h1.isMap (K.key hx) _, fun v' hv' z => ?_⟩
      cases hv'
      exact atKey_put_same h1.isMap (K.key hx) _ _
    · rw [ho y hyx]
      have hll : ly ≠ l := fun e => hyx (K.inj hy (e ▸ hx))
      refine ⟨(has_put_other hll _).trans (h3 y ly hy).1, fun v' hv' z => (atKey_put_other hll _ _).trans ((h3 y ly hy).2 v' hv' z)⟩
/-- 'delete(m, k)' -/
theorem KMap.drop (h : KMap P k w b f n) {t e : TypeId} (K : Keyed P k) (ht : P.underlying t = some (.map k e)) {x : Value} {l : Lit} (hx : keyOf P k x = some l) (ty : TypeId) (f' : Value → Option Value) (hs : f' x = none) (ho : ∀ y, y ≠ x → f' y = f y) :
    ∃ w', (Builtin.delete_ #[t, k] ty #[.map (some b), x]).run P w = .ok (.tuple #[]) w' ∧ KMap P k w' b f' (if (f x).isSome then n - 1 else n) ∧ Keep (fun k => k = b) w w' := by
  obtain ⟨D, h1, h2, h3⟩ := h
  obtain ⟨w1, hrun, r1, r2⟩ := h1.drop K ht hx ty
  have hsz := size_del (k := l) (h1.tidy K)
  rw [(h3 x l hx).1, h2] at hsz
  have hsz2 : Maps.size (D.del l) = if (f x).isSome then n - 1 else n := by
    cases hf : (f x).isSome <;> rw [hf] at hsz <;> simp at hsz ⊢ <;> omega
  refine ⟨w1, hrun, ⟨D.del l, ?_, hsz2, fun y ly hy => ?_⟩, Keep.of_turned r2⟩
  · have := ownsMap_tight r1
    rw [hsz2] at this
    exact this
  · by_cases hyx : y = x
    · subst hyx
      obtain rfl : ly = l := Option.some.inj (hy.symm.trans hx)
      rw [hs]
      exact ⟨has_del_same, fun v' hv' => by cases hv'⟩
    · rw [ho y hyx]
      have hll : ly ≠ l := fun e => hyx (K.inj hy (e ▸ hx))
      refine ⟨(has_del_other hll).trans (h3 y ly hy).1, fun v' hv' z => (atKey_del_other hll _).trans ((h3 y ly hy).2 v' hv' z)⟩
end
theorem keyOf_string {P : Program} {k : TypeId} (hk : P.underlying k = some .string) (s : ByteArray) (hs : s.size ≤ maxLen) : keyOf P k (.string s) = some (.string s.data.toList) := by
  simp [keyOf, hk, mapKey, hs]
end Go.Proofs.YtbjbjgfjaopibaaGreatDoor
end

section
/- The journal's map: keys, values in rows of their own. -/
namespace Go.Proofs.YtbjbjgfjaopibaaGreatDoor
open Go Go.RowKit Go.Maps
set_option linter.unusedSimpArgs false
set_option linter.unusedVariables false
set_option maxRecDepth 100000

/-- what a map's function tells of keys and values; rows lie in blocks of which N holds -/
def JF (N : Nat → Prop) (w : World) (l : KV) (f : Value → Option Value) : Prop :=
  ∀ s : ByteArray, (getK l (bsK s) = none → f (.string s) = none) ∧ ∀ z, getK l (bsK s) = some z → ∃ v o, f (.string s) = some v ∧ Row w 5 v z o ∧ ∀ g, o = some g → N g
theorem JF.nil (N : Nat → Prop) (w : World) : JF N w [] (fun _ => none) := fun s => ⟨fun _ => rfl, fun z h => by cases h⟩
theorem JF.keep {N X : Nat → Prop} {w w' : World} {l : KV} {f : Value → Option Value} (h : JF N w l f) (hk : Keep X w w') (hn : ∀ g, N g → g < w.heap.size → ¬ X g) : JF N w' l f := fun s => ⟨(h s).1, fun z hz => by
  obtain ⟨v, o, h1, h2, h3⟩ := (h s).2 z hz
  exact ⟨v, o, h1, h2.keep hk (fun g hg => hn g (h3 g hg) (h2.lt g hg)), h3⟩⟩
theorem JF.mono {N M : Nat → Prop} {w : World} {l : KV} {f : Value → Option Value} (h : JF N w l f) (hm : ∀ g, N g → g < w.heap.size → M g) : JF M w l f := fun s => ⟨(h s).1, fun z hz => by
  obtain ⟨v, o, h1, h2, h3⟩ := (h s).2 z hz
  exact ⟨v, o, h1, h2, fun g hg => hm g (h3 g hg) (h2.lt g hg)⟩⟩
open Classical in
/-- a map's function, turned at one key -/
noncomputable def turn (f : Value → Option Value) (x : Value) (v : Option Value) : Value → Option Value := fun y => if y = x then v else f y
theorem turn_same (f : Value → Option Value) (x : Value) (v : Option Value) : turn f x v x = v := by unfold turn; rw [if_pos rfl]
theorem turn_other (f : Value → Option Value) (x : Value) (v : Option Value) (y : Value) (h : y ≠ x) : turn f x v y = f y := by unfold turn; rw [if_neg h]
theorem bsK_inj {s t : ByteArray} (h : bsK s = bsK t) : s = t := by rw [← sK_bsK s, ← sK_bsK t, h]
theorem JF.put {N : Nat → Prop} {w : World} {l : KV} {f : Value → Option Value} (h : JF N w l f) {v : Value} {z : List Int} {o : Option Nat} (hr : Row w 5 v z o) (ho : ∀ g, o = some g → N g) (s : ByteArray) : JF N w (putK l (bsK s) z) (turn f (.string s) (some v)) := fun t => by
  rw [getK_put]
  by_cases ht : t = s
  · subst ht
    rw [if_pos rfl, turn_same]
    exact ⟨fun e => (by cases e), fun z' e => (by cases e; exact ⟨v, o, rfl, hr, ho⟩)⟩
  · rw [if_neg (fun e => ht (bsK_inj e)), turn_other _ _ _ _ (fun e => ht (by injection e))]
    exact h t
theorem JF.del {N : Nat → Prop} {w : World} {l : KV} {f : Value → Option Value} (h : JF N w l f) (s : ByteArray) : JF N w (delK l (bsK s)) (turn f (.string s) none) := fun t => by
  rw [getK_del]
  by_cases ht : t = s
  · subst ht
    rw [if_pos rfl, turn_same]
    exact ⟨fun _ => rfl, fun z' e => (by cases e)⟩
  · rw [if_neg (fun e => ht (bsK_inj e)), turn_other _ _ _ _ (fun e => ht (by injection e))]
    exact h t
theorem JF.isSome {N : Nat → Prop} {w : World} {l : KV} {f : Value → Option Value} (h : JF N w l f) (s : ByteArray) : (f (.string s)).isSome = (getK l (bsK s)).isSome := by
  cases hg : getK l (bsK s) with
  | none => rw [(h s).1 hg]; rfl
  | some z => obtain ⟨v, o, h1, _⟩ := (h s).2 z hg; rw [h1]; rfl
theorem insK_len (k : Key) (v : List Int) : ∀ l : KV, (insK l k v).length = l.length + 1
  | [] => rfl
  | q :: t => by unfold insK; split <;> simp [insK_len k v t]
theorem delK_len {l : KV} (hs : Srt l) (k : Key) : (delK l k).length = if (getK l k).isSome then l.length - 1 else l.length := by
  induction l with
  | nil => rfl
  | cons p t ih =>
    have h1 := List.pairwise_cons.1 hs
    have ht := ih h1.2
    unfold delK at ht ⊢
    rw [List.filter_cons, getK_cons]
    by_cases h : p.1 = k
    · rw [if_neg (by simp [h]), if_pos h, ht]
      have : (getK t k).isSome = false := by
        cases hg : getK t k with
        | none => rfl
        | some z => have := h1.1 _ (getK_mem hg); rw [h] at this; exact absurd this (klt_irrefl k)
      rw [this]; simp
    · rw [if_pos (by simp [h]), if_neg h, List.length_cons, ht]
      cases hg : (getK t k).isSome
      · rfl
      · simp only [if_true, List.length_cons]
        have : t ≠ [] := fun e => by subst e; cases hg
        have := List.length_pos_iff.2 this
        omega
theorem putK_len {l : KV} (hs : Srt l) (k : Key) (v : List Int) : (putK l k v).length = if (getK l k).isSome then l.length else l.length + 1 := by
  unfold putK
  rw [insK_len, delK_len hs]
  cases hg : (getK l k).isSome
  · rfl
  · simp only [if_true]
    have : l ≠ [] := fun e => by subst e; cases hg
    have := List.length_pos_iff.2 this
    omega
/-- block b is the map of keys and values l -/
def JMap (N : Nat → Prop) (w : World) (b : Nat) (l : KV) : Prop := ∃ f, KMap Tryz.prog 9 w b f l.length ∧ JF N w l f
section
variable {N : Nat → Prop} {w w' : World} {b : Nat} {l : KV}
theorem JMap.made (N : Nat → Prop) (w : World) : JMap N (w.alloc (.map #[] 0)) w.heap.size [] := ⟨_, KMap.made w Tryz.prog 9, JF.nil _ _⟩
theorem JMap.lt (h : JMap N w b l) : b < w.heap.size := by obtain ⟨f, h1, _⟩ := h; exact h1.lt
theorem JMap.keep {X : Nat → Prop} (h : JMap N w b l) (hk : Keep X w w') (hb : ¬ X b) (hn : ∀ g, N g → g < w.heap.size → ¬ X g) : JMap N w' b l := by
  obtain ⟨f, h1, h2⟩ := h
  exact ⟨f, h1.keep hk hb, h2.keep hk hn⟩
theorem JMap.mono {M : Nat → Prop} (h : JMap N w b l) (hm : ∀ g, N g → g < w.heap.size → M g) : JMap M w b l := by
  obtain ⟨f, h1, h2⟩ := h
  exact ⟨f, h1, h2.mono hm⟩
theorem key_of (s : ByteArray) (hs : s.size ≤ 140737488351232) : keyOf Tryz.prog 9 (.string s) = some (.string s.data.toList) := keyOf_string Tryz.underlying9 _ (by unfold maxLen; omega)
theorem JMap.store (h : JMap N w b l) (hs : Srt l) (hl : l.length ≤ 140737488351232) (s : ByteArray) (hk : s.size ≤ 140737488351232) {v : Value} {z : List Int} {o : Option Nat} (hr : Row w 5 v z o) (ho : ∀ g, o = some g → N g) (hN : ∀ g, N g → g ≠ b) :
    ∃ w', (Instr.mapUpdate 72 (.map (some b)) (.string s) v).run Tryz.prog w = .ok () w' ∧ JMap N w' b (putK l (bsK s) z) ∧ Keep (fun k => k = b) w w' := by
  obtain ⟨f, h1, h2⟩ := h
  obtain ⟨w1, r1, r2, r3⟩ := h1.store (string_keyed Tryz.underlying9) Tryz.underlying72 (by unfold maxLen; omega) (key_of s hk) v (turn f (.string s) (some v)) (turn_same _ _ _) (turn_other _ _ _)
  refine ⟨w1, r1, ⟨_, ?_, (h2.put hr ho s).keep r3 (fun g hg _ e => hN g hg e)⟩, r3⟩
  rw [h2.isSome] at r2
  rw [putK_len hs]; exact r2
theorem JMap.drop (h : JMap N w b l) (hs : Srt l) (s : ByteArray) (hk : s.size ≤ 140737488351232) (hN : ∀ g, N g → g ≠ b) (ty : TypeId) :
    ∃ w', (Builtin.delete_ #[72, 9] ty #[.map (some b), .string s]).run Tryz.prog w = .ok (.tuple #[]) w' ∧ JMap N w' b (delK l (bsK s)) ∧ Keep (fun k => k = b) w w' := by
  obtain ⟨f, h1, h2⟩ := h
  obtain ⟨w1, r1, r2, r3⟩ := h1.drop (string_keyed Tryz.underlying9) Tryz.underlying72 (key_of s hk) ty (turn f (.string s) none) (turn_same _ _ _) (turn_other _ _ _)
  refine ⟨w1, r1, ⟨_, ?_, (h2.del s).keep r3 (fun g hg _ e => hN g hg e)⟩, r3⟩
  rw [h2.isSome] at r2
  rw [delK_len hs]; exact r2
theorem zeroBytes (w : World) : (zeroValue 22).run Tryz.prog w = .ok (.slice none 0 0) w := by kernel_rfl
/-- 'v, ok := m[k]' -/
theorem JMap.look (h : JMap N w b l) (s : ByteArray) (hk : s.size ≤ 140737488351232) :
    ∃ v o, (Instr.lookup 72 (.map (some b)) (.string s) true).run Tryz.prog w = .ok (.tuple #[v, .bool (getK l (bsK s)).isSome]) w ∧ Row w 5 v ((getK l (bsK s)).getD []) o ∧ ∀ g, o = some g → N g := by
  obtain ⟨f, h1, h2⟩ := h
  have h3 := h1.lookOk (string_keyed Tryz.underlying9) Tryz.underlying72 (zeroBytes w) (key_of s hk)
  rw [h2.isSome] at h3
  cases hg : getK l (bsK s) with
  | none =>
    rw [(h2 s).1 hg, hg] at h3
    exact ⟨_, none, h3, Row.nil _ _, fun g hg => by cases hg⟩
  | some z =>
    obtain ⟨v, o, e1, e2, e3⟩ := (h2 s).2 z hg
    rw [e1, hg] at h3
    exact ⟨v, o, h3, e2, e3⟩
end
/-- how many keys there can be -/
theorem putK_le {l : KV} (hs : Srt l) (k : Key) (v : List Int) : (putK l k v).length ≤ l.length + 1 := by rw [putK_len hs]; split <;> omega
theorem delK_le {l : KV} (k : Key) : (delK l k).length ≤ l.length := List.length_filter_le _ _
end Go.Proofs.YtbjbjgfjaopibaaGreatDoor
end

section
/- The walks of layer 15: the tape's methods. -/
namespace Go.Proofs.YtbjbjgfjaopibaaGreatDoor
open Go Go.RowKit
set_option linter.unusedSimpArgs false
set_option maxRecDepth 100000

theorem tnobody_nil (w : World) : Calls Tryz.prog 49 #[.pointer none] w fun e w' => e = .returned (.bool true) ∧ w = w' := by
  go_enter Tryz.func49, Tryz.ntmps49
  go_wp2
  go_ret
  exact ⟨rfl, rfl⟩
theorem tnobody (p : Nat) (b : Bool) (w : World) (h : w.cell? ⟨p, 0, none⟩ = some (.bool b)) : Calls Tryz.prog 49 #[.pointer (some ⟨p, 0, none⟩)] w fun e w' => e = .returned (.bool (!b)) ∧ w = w' := by
  go_enter Tryz.func49, Tryz.ntmps49
  go_wp2
  go_ret
  exact ⟨rfl, rfl⟩
/-- a change taken off the fuse -/
def burn (fu : Int) : Int := if 0 < fu then fu - 1 else fu
def burnE (fu : Int) : Int := if fu = 0 then 150 else 0
theorem tchange (p : Nat) (m v s r : Value) (fu : Int) (w : World) (hb : Blk w p #[m, v, s, r, .int .i64 fu] 48) (h0 : -1 ≤ fu) (h1 : fu ≤ 9223372036854775807) :
    Calls Tryz.prog 51 #[.pointer (some ⟨p, 0, none⟩)] w fun e w' => e = .returned (.int .i64 (burnE fu)) ∧ Blk w' p #[m, v, s, r, .int .i64 (burn fu)] 48 ∧ Keep (fun k => k = p) w w' := by
  have c := hb.cell 4
  have f := hb.free 4
  rw [show (#[m, v, s, r, Value.int .i64 fu] : Array Value)[4]? = some (.int .i64 fu) from rfl] at c
  have hB := Lib.hid hb
  clear hb
  by_cases hz : fu = 0
  · subst hz
    go_enter Tryz.func51, Tryz.ntmps51
    go_wp2
    go_ret
    exact ⟨rfl, hB.out, Keep.refl _ _⟩
  · have z1 : (fu == 0) = false := by simpa using hz
    have HE := Lib.hid (show burnE fu = 0 from if_neg hz)
    by_cases hp : 0 < fu
    · have HB := Lib.hid (show burn fu = fu - 1 from if_pos hp)
      go_enter Tryz.func51, Tryz.ntmps51
      go_wp2
      go_ret
      exact ⟨by rw [HE.out]; rfl, by rw [HB.out]; exact hB.out.set 4 _, Keep.set (X := fun k => k = p) (Keep.refl _ _) (.inl rfl) _⟩
    · have HB := Lib.hid (show burn fu = fu from if_neg hp)
      go_enter Tryz.func51, Tryz.ntmps51
      go_wp2
      go_ret
      exact ⟨by rw [HE.out]; rfl, by rw [HB.out]; exact hB.out, Keep.refl _ _⟩
theorem tkeep (p : Nat) (m s r f : Value) (q : Option Addr) (len cap n : Nat) (w : World) (hb : Blk w p #[m, .slice q len cap, s, r, f] 48) (hn : n ≤ cap) :
    Calls Tryz.prog 50 #[.pointer (some ⟨p, 0, none⟩), .int .i64 (n : Int)] w fun e w' => e = .returned (.tuple #[]) ∧ Blk w' p #[m, .slice q n n, .int .i64 (n : Int), r, f] 48 ∧ Keep (fun k => k = p) w w' := by
  have c := hb.cell
  have f' := hb.free
  have hB := Lib.hid hb
  clear hb
  go_enter Tryz.func50, Tryz.ntmps50
  go_wp2
  go_end0
  exact ⟨rfl, (hB.out.set 1 _).set 2 _, Keep.set (X := fun k => k = p) (Keep.set (X := fun k => k = p) (Keep.refl _ _) (.inl rfl) _) (.inl rfl) _⟩
/-- a tape that a call made, in memory: its bytes, how many are synced, its room, its fuse; o: the block of its bytes -/
def TapeAt (w : World) (p : Nat) (xs : List Int) (sy ro fu : Int) (o : Option Nat) : Prop :=
  ∃ v, Blk w p #[.bool true, v, .int .i64 sy, .int .i64 ro, .int .i64 fu] 48 ∧ Row w 5 v xs o ∧ o ≠ some p
/-- the blocks of a tape -/
def foot (p : Nat) (o : Option Nat) : Nat → Prop := fun k => k = p ∨ o = some k
theorem TapeAt.keep {X : Nat → Prop} {w w' : World} {p : Nat} {xs : List Int} {sy ro fu : Int} {o : Option Nat} (h : TapeAt w p xs sy ro fu o) (hk : Keep X w w') (hn : ∀ k, foot p o k → ¬ X k) : TapeAt w' p xs sy ro fu o := by
  obtain ⟨v, h1, h2, h3⟩ := h
  exact ⟨v, hk.blk h1 (hn p (.inl rfl)), h2.keep hk (fun g hg => hn g (.inr hg)), h3⟩
theorem TapeAt.lt {w : World} {p : Nat} {xs : List Int} {sy ro fu : Int} {o : Option Nat} (h : TapeAt w p xs sy ro fu o) : ∀ k, foot p o k → k < w.heap.size := by
  obtain ⟨v, h1, h2, h3⟩ := h
  rintro k (rfl | hk)
  · exact h1.lt
  · exact h2.lt k hk
theorem u8info : (Tryz.prog.info? 5).map (fun i => (i.zero, i.size, i.bytes)) = some (some (.int .u8 0), 1, 1) := by kernel_rfl

theorem tsynced (p : Nat) (xs : List Int) (sy ro fu : Int) (o : Option Nat) (w : World) (h : TapeAt w p xs sy ro fu o) :
    Calls Tryz.prog 26 #[.pointer (some ⟨p, 0, none⟩)] w fun e w' => e = .returned (.int .i64 sy) ∧ w = w' := by
  obtain ⟨v, h1, h2, h3⟩ := h
  have c := h1.cell
  have P := Lib.hid (tnobody p true w (h1.cell 0))
  go_enter Tryz.func26, Tryz.ntmps26
  go_wp2_with fail
  refine P.out.mono ?_
  rintro e w1 ⟨rfl, rfl⟩
  go_wp2
  go_ret
  exact ⟨rfl, rfl⟩
/-- Bytes: a copy of all, in memory of the call's own -/
theorem tbytes (p : Nat) (xs : List Int) (sy ro fu : Int) (o : Option Nat) (w : World) (h : TapeAt w p xs sy ro fu o) (hl : xs.length ≤ 140737488355328) :
    Calls Tryz.prog 25 #[.pointer (some ⟨p, 0, none⟩)] w fun e w' => ∃ q c o', e = .returned (.slice q xs.length c) ∧ Row w' 5 (.slice q xs.length c) xs o' ∧ (∀ g, o' = some g → w.heap.size ≤ g) ∧ Below w.heap.size w w' := by
  obtain ⟨v, h1, h2, h3⟩ := h
  have c := h1.cell
  have P := Lib.hid (tnobody p true w (h1.cell 0))
  obtain ⟨q, cc, rfl, hb, hle, hm, hq⟩ := h2.form
  rcases hq with ⟨rfl, rfl, rfl, rfl⟩ | ⟨g, rfl, rfl, hg⟩
  · have Q := Lib.hid (Tryz.bytes_Clone_nil 0 0 w)
    go_enter Tryz.func25, Tryz.ntmps25
    go_wp2_with fail
    refine P.out.mono ?_
    rintro e w1 ⟨rfl, rfl⟩
    go_wp2_with fail
    refine Q.out.mono ?_
    rintro e w1 ⟨rfl, rfl⟩
    go_wp2
    go_ret
    exact ⟨none, 0, none, rfl, Row.nil _ _, fun g hg => by (cases hg), Below.refl _ _⟩
  · have Q := Lib.hid (Tryz.bytes_Clone_at ⟨g, 0, none⟩ xs.length cc xs w rfl hl (fun i hi => by
      obtain ⟨b, o2, e1, hc⟩ := hb.at (by omega)
      simp at e1; obtain ⟨rfl, rfl⟩ := e1
      rw [Addr.add_lit]; exact hc i hi))
    go_enter Tryz.func25, Tryz.ntmps25
    go_wp2_with fail
    refine P.out.mono ?_
    rintro e w1 ⟨rfl, rfl⟩
    go_wp2_with fail
    refine Q.out.mono ?_
    rintro e w1 ⟨v', rfl, hown, hne, hbel⟩
    obtain ⟨o', r1, r2, r3⟩ := Row.of_owns hown
    obtain ⟨q', c', rfl, _⟩ := r1.form
    go_wp2
    go_ret
    exact ⟨q', c', o', rfl, r1, fun g hg => (r2 g hg).1, hbel⟩
/-- the answers of Fuse and Room, and what is there behind them -/
def fuseE (n : Int) : Int := if n < 0 then 1 else 0
def fuseN (n fu : Int) : Int := if n < 0 then fu else n
def roomE (n : Int) : Int := if n < 0 ∨ 16777216 < n then 1 else 0
def roomN (n ro : Int) : Int := if n < 0 ∨ 16777216 < n then ro else n
theorem tfuse (p : Nat) (xs : List Int) (sy ro fu n : Int) (o : Option Nat) (w : World) (h : TapeAt w p xs sy ro fu o) :
    Calls Tryz.prog 16 #[.pointer (some ⟨p, 0, none⟩), .int .i64 n] w fun e w' => e = .returned (.int .i64 (fuseE n)) ∧ TapeAt w' p xs sy ro (fuseN n fu) o ∧ Keep (foot p o) w w' := by
  obtain ⟨v, h1, h2, h3⟩ := h
  have c := h1.cell
  have f := h1.free
  have P := Lib.hid (tnobody p true w (h1.cell 0))
  have H1 := Lib.hid h1
  have H2 := Lib.hid h2
  have H3 := Lib.hid h3
  clear h1 h2 h3
  by_cases hn : n < 0
  · have HE := Lib.hid (show fuseE n = 1 from if_pos hn)
    have HF := Lib.hid (show fuseN n fu = fu from if_pos hn)
    go_enter Tryz.func16, Tryz.ntmps16
    go_wp2_with fail
    refine P.out.mono ?_
    rintro e w1 ⟨rfl, rfl⟩
    go_wp2
    go_ret
    exact ⟨by rw [HE.out]; rfl, by rw [HF.out]; exact ⟨v, H1.out, H2.out, H3.out⟩, Keep.refl _ _⟩
  · have HE := Lib.hid (show fuseE n = 0 from if_neg hn)
    have HF := Lib.hid (show fuseN n fu = n from if_neg hn)
    go_enter Tryz.func16, Tryz.ntmps16
    go_wp2_with fail
    refine P.out.mono ?_
    rintro e w1 ⟨rfl, rfl⟩
    go_wp2
    go_ret
    have K := Keep.set (X := fun k => k = p) (Keep.refl _ w) (p := ⟨p, 4, none⟩) (.inl rfl) (.int .i64 n)
    exact ⟨by rw [HE.out]; rfl, by rw [HF.out]; exact ⟨v, H1.out.set 4 _, H2.out.keep K (fun g hg e => H3.out (by rw [hg, e])), H3.out⟩, K.mono fun k e => .inl e⟩
theorem troom (p : Nat) (xs : List Int) (sy ro fu n : Int) (o : Option Nat) (w : World) (h : TapeAt w p xs sy ro fu o) :
    Calls Tryz.prog 18 #[.pointer (some ⟨p, 0, none⟩), .int .i64 n] w fun e w' => e = .returned (.int .i64 (roomE n)) ∧ TapeAt w' p xs sy (roomN n ro) fu o ∧ Keep (foot p o) w w' := by
  obtain ⟨v, h1, h2, h3⟩ := h
  have c := h1.cell
  have f := h1.free
  have P := Lib.hid (tnobody p true w (h1.cell 0))
  have H1 := Lib.hid h1
  have H2 := Lib.hid h2
  have H3 := Lib.hid h3
  clear h1 h2 h3
  by_cases hn : n < 0 ∨ 16777216 < n
  · have HE := Lib.hid (show roomE n = 1 from if_pos hn)
    have HF := Lib.hid (show roomN n ro = ro from if_pos hn)
    by_cases h0 : n < 0
    · have d1 : decide (n < 0) = true := decide_eq_true h0
      clear hn
      go_enter Tryz.func18, Tryz.ntmps18
      go_wp2_with fail
      refine P.out.mono ?_
      rintro e w1 ⟨rfl, rfl⟩
      go_wp2
      go_ret
      exact ⟨by rw [HE.out]; rfl, by rw [HF.out]; exact ⟨v, H1.out, H2.out, H3.out⟩, Keep.refl _ _⟩
    · have d1 : decide (n < 0) = false := decide_eq_false h0
      have d2 : decide (16777216 < n) = true := decide_eq_true (by omega)
      clear hn
      go_enter Tryz.func18, Tryz.ntmps18
      go_wp2_with fail
      refine P.out.mono ?_
      rintro e w1 ⟨rfl, rfl⟩
      go_wp2
      go_ret
      exact ⟨by rw [HE.out]; rfl, by rw [HF.out]; exact ⟨v, H1.out, H2.out, H3.out⟩, Keep.refl _ _⟩
  · have HE := Lib.hid (show roomE n = 0 from if_neg hn)
    have HF := Lib.hid (show roomN n ro = n from if_neg hn)
    have d1 : decide (n < 0) = false := decide_eq_false (by omega)
    have d2 : decide (16777216 < n) = false := decide_eq_false (by omega)
    clear hn
    go_enter Tryz.func18, Tryz.ntmps18
    go_wp2_with fail
    refine P.out.mono ?_
    rintro e w1 ⟨rfl, rfl⟩
    go_wp2
    go_ret
    have K := Keep.set (X := fun k => k = p) (Keep.refl _ w) (p := ⟨p, 3, none⟩) (.inl rfl) (.int .i64 n)
    exact ⟨by rw [HE.out]; rfl, by rw [HF.out]; exact ⟨v, H1.out.set 3 _, H2.out.keep K (fun g hg e => H3.out (by rw [hg, e])), H3.out⟩, K.mono fun k e => .inl e⟩
end Go.Proofs.YtbjbjgfjaopibaaGreatDoor
end
