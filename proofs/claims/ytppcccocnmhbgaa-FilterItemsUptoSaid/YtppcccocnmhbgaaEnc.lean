/- Counts' bytes, the document's: Low, Encode. -/
import Derived.Test.YtppcccocnmhbgaaLe
import Derived.Test.YtppcccocnmhbgaaCat
namespace Go.Proofs.Ytppcccocnmhbgaa
open Go Go.RowKit
set_option linter.unusedSimpArgs false
set_option linter.unusedVariables false
set_option maxRecDepth 100000

/-- ONE byte behind a row, laid in a block of its own first -/
theorem row_snoc {P : Program} {w : World} {e : TypeId} {v : Value} {xs : List Int} {o : Option Nat} (t ty : TypeId) (i : TypeInfo) (z : Value) (ht : P.underlying t = some (.slice e)) (hi : P.info? e = some i) (hz : i.zero = some z) (hs : i.size = 1) (hby : i.bytes = 1) (hzs : z.cells.size = 1)
    (h : Row w e v xs o) (u : Int) (hb : xs.length + 1 ≤ 140737488355328) :
    ∃ p' c' w' o', (Builtin.append_ #[t, t] ty #[v, .slice (some ⟨w.heap.size, 0, none⟩) 1 1]).run P (w.alloc (.cells #[.int .u8 u] e)) = .ok (.slice p' (xs.length + 1) c') w' ∧ Row w' e (.slice p' (xs.length + 1) c') (xs ++ [u]) o' ∧ (o' = o ∨ ∃ g', o' = some g' ∧ w.heap.size ≤ g') ∧ Keep (fun k => o = some k) w w' := by
  have h' := h.keep (X := fun _ => False) ((Keep.refl _ w).alloc (.cells #[.int .u8 u] e)) (fun _ _ h => h)
  obtain ⟨v', w', o', r1, r2, r3, r4⟩ := row_appendL (P := P) t ty i z ht hi hz hs hby hzs h' (p := some ⟨w.heap.size, 0, none⟩) (c := 1) (ys := [u]) (Lib.BytesIn.of_cells fun j hj => by
    match j, hj with
    | 0, _ => rw [Addr.add_lit, (Blk.new w #[.int .u8 u] e).cell]; rfl
    | j + 1, hj => simp at hj) (by simpa using hb)
  obtain ⟨p, cap', rfl, _⟩ := r2.form
  rw [show (xs ++ [u]).length = xs.length + 1 from by simp] at r1 r2
  exact ⟨p, cap', w', o', r1, r2, r3.imp id (fun ⟨g', h1, h2⟩ => ⟨g', h1, by simp at h2; omega⟩), ((Keep.refl _ w).alloc _).trans r4⟩
/-- a number in so many bytes, the lowest first -/
def leB (n k : Nat) : List Int := (List.range k).map fun i => ((n / 2 ^ (8 * i) % 256 : Nat) : Int)
theorem leB_length (n k : Nat) : (leB n k).length = k := by simp [leB]
theorem leB_succ (n k : Nat) : leB n k ++ [((n / 2 ^ (8 * k) % 256 : Nat) : Int)] = leB n (k + 1) := by
  unfold leB; rw [List.range_succ, List.map_append]; rfl
def encS (n : Nat) : List Int := if n < 253 then [(n : Int)] else if n ≤ 65535 then 253 :: leB n 2 else if n ≤ 4294967295 then 254 :: leB n 4 else 255 :: leB n 8
theorem u8inf : (Try.prog.info? 5).map (fun i => (i.zero, i.size, i.bytes)) = some (some (.int .u8 0), 1, 1) := by kernel_rfl
set_option maxHeartbeats 1600000 in
theorem rlow (n k : Nat) (hn : n < 18446744073709551616) (hk : k ≤ 8) (w : World) : Calls Try.prog 76 #[.int .u64 (n : Int), .int .i64 (k : Int)] w fun e w' => ∃ p c o, e = .returned (.slice p k c) ∧ Row w' 5 (.slice p k c) (leB n k) o ∧ (∀ g, o = some g → w.heap.size ≤ g) ∧ Below w.heap.size w w' := by
  obtain ⟨i0, hi, hz0, hz1, hz2⟩ := info_parts u8inf
  have HI := Lib.hid (And.intro hi (And.intro hz0 (And.intro hz1 hz2)))
  clear hi hz0 hz1 hz2
  go_enter Try.func76, Try.ntmps76
  go_wp2
  generalize hgw : w.heap.size = G at *
  go_loopg [5, 8] k (fun gh v i wx => ∃ (j : Nat) (p : Option Addr) (c : Nat) (o : Option Nat), j ≤ k ∧ v = .slice p j c ∧ i = .int .i64 (j : Int) ∧ gh = k - j ∧ Hid (Row wx 5 (.slice p j c) (leB n j) o ∧ (∀ g, o = some g → G ≤ g) ∧ Below G w wx))
  case atStart => exact ⟨0, none, 0, none, Nat.zero_le _, rfl, rfl, rfl, Row.nil _ _, fun g hg => (by cases hg), by rw [← hgw]; exact Below.refl _ _⟩
  case round =>
    obtain ⟨j, p, c, o, hj, rfl, rfl, hg, HR⟩ := hrel
    have HGK := Lib.hid hg
    clear hg
    by_cases hlt : j < k
    · have a2 : IntKind.i64.wrap (8 * (j : Int)) = 8 * (j : Int) := by rw [IntKind.wrap_i64]; omega
      obtain ⟨p3, c3, w3, o3, run3, R3, ho3, k3⟩ := row_snoc (P := Try.prog) 26 26 i0 (.int .u8 0) Try.underlying26 HI.out.1 HI.out.2.1 HI.out.2.2.1 HI.out.2.2.2 rfl (v := .slice p j c) (xs := leB n j) HR.out.1 ((n : Int) / 2 ^ (8 * j) % 256) (by rw [leB_length]; omega)
      rw [leB_length] at run3 R3
      rw [show ((n : Int) / 2 ^ (8 * j) % 256) = ((n / 2 ^ (8 * j) % 256 : Nat) : Int) from by simp, leB_succ] at R3
      have H3 := Lib.hid (And.intro R3 (own_step hgw HR.out.2.2 HR.out.2.1 ho3 k3))
      clear R3 ho3 k3
      go_wp2_with (at_builtin; refine wpl_append rfl _ _ 26 rfl rfl rfl run3 ?_)
      go_roundg (k - (j + 1))
      case measure => rw [HGK.out]; omega
      case rel => exact ⟨j + 1, p3, c3, o3, hlt, rfl, rfl, rfl, H3.out⟩
    · obtain rfl : j = k := by omega
      subst hgw
      go_wp2
      go_ret
      exact ⟨p, c, o, rfl, HR.out⟩
theorem encS_1 {n : Nat} (h : n < 253) : encS n = [(n : Int)] := if_pos h
theorem encS_3 {n : Nat} (h : ¬ n < 253) (h2 : n ≤ 65535) : encS n = 253 :: leB n 2 := by unfold encS; rw [if_neg h, if_pos h2]
theorem encS_5 {n : Nat} (h : ¬ n < 253) (h2 : ¬ n ≤ 65535) (h3 : n ≤ 4294967295) : encS n = 254 :: leB n 4 := by unfold encS; rw [if_neg h, if_neg h2, if_pos h3]
theorem encS_9 {n : Nat} (h : ¬ n < 253) (h2 : ¬ n ≤ 65535) (h3 : ¬ n ≤ 4294967295) : encS n = 255 :: leB n 8 := by unfold encS; rw [if_neg h, if_neg h2, if_neg h3]
theorem renc1 (n : Nat) (hn : n < 253) (w : World) : Calls Try.prog 41 #[.int .u64 (n : Int)] w fun e w' => ∃ p c o, e = .returned (.slice p 1 c) ∧ Row w' 5 (.slice p 1 c) [(n : Int)] o ∧ (∀ g, o = some g → w.heap.size ≤ g) ∧ Below w.heap.size w w' := by
  have h1 : (n : Int) < 253 := by omega
  have R0 : Row (w.alloc (.cells #[.int .u8 (n : Int)] 5)) 5 (.slice (some ⟨w.heap.size, 0, none⟩) 1 1) [(n : Int)] (some w.heap.size) :=
    .inr ⟨w.heap.size, 1, #[.int .u8 (n : Int)], rfl, rfl, Blk.new _ _ _, Nat.le_refl _, Nat.le_refl _, (by decide), rfl⟩
  have HR := Lib.hid R0
  clear R0
  go_enter Try.func41, Try.ntmps41
  go_wp2
  go_ret
  exact ⟨_, _, some w.heap.size, rfl, HR.out, fun g hg => (by cases hg; exact Nat.le_refl _), (Below.refl _ _).alloc (Nat.le_refl _) _⟩
set_option maxHeartbeats 1600000 in
theorem renc3 (n : Nat) (hn : n < 18446744073709551616) (h1 : ¬ n < 253) (h2 : n ≤ 65535) (w : World) : Calls Try.prog 41 #[.int .u64 (n : Int)] w fun e w' => ∃ p c o, e = .returned (.slice p (2 + 1) c) ∧ Row w' 5 (.slice p (2 + 1) c) (253 :: leB n 2) o ∧ (∀ g, o = some g → w.heap.size ≤ g) ∧ Below w.heap.size w w' := by
  obtain ⟨i0, hi, hz0, hz1, hz2⟩ := info_parts u8inf
  have PL := Lib.hid (rlow n 2 hn (by decide) (w.alloc (.cells #[.int .u8 253] 5)))
  have R0 : Row (w.alloc (.cells #[.int .u8 253] 5)) 5 (.slice (some ⟨w.heap.size, 0, none⟩) 1 1) [253] (some w.heap.size) :=
    .inr ⟨w.heap.size, 1, #[.int .u8 253], rfl, rfl, Blk.new _ _ _, Nat.le_refl _, Nat.le_refl _, (by decide), rfl⟩
  have HR := Lib.hid R0
  have d1 : decide ((n : Int) < 253) = false := decide_eq_false (by omega); have d2 : decide ((n : Int) ≤ 65535) = true := decide_eq_true (by omega)
  clear R0 hn h1 h2
  go_enter Try.func41, Try.ntmps41
  go_wp2_with fail
  refine PL.out.mono ?_
  rintro e w1 ⟨p1, c1, o1, rfl, R1, ho1, hb1⟩
  have R2 := HR.out.keep (Keep.of_below (X := fun _ => False) hb1) (fun _ _ h => h)
  obtain ⟨_, _, e1, hy, _⟩ := R1.form
  cases e1
  rw [leB_length] at hy
  obtain ⟨v2, w2, o2, run2, R3, ho2, k2⟩ := row_appendL (P := Try.prog) 26 26 i0 (.int .u8 0) Try.underlying26 hi hz0 hz1 hz2 rfl R2 (p := p1) (c := c1) (ys := leB n 2) (by rw [leB_length]; exact hy) (by rw [leB_length]; decide)
  have hbw : Below w.heap.size w w1 := ((Below.refl w.heap.size w).alloc (Nat.le_refl _) _).trans (hb1.mono (by simp))
  have H2 := Lib.hid (own_step rfl hbw (fun g hg => by cases hg; exact Nat.le_refl _) ho2 k2)
  rw [leB_length] at run2
  obtain ⟨p2, c2, rfl, _⟩ := R3.form
  have HR3 := Lib.hid R3
  clear R1 R2 R3 ho1 hb1 hbw hy ho2 k2
  go_wp2_with (at_builtin; refine wpl_append rfl _ _ 26 rfl rfl rfl run2 ?_)
  go_ret
  have hl : ([253] ++ leB n 2).length = 2 + 1 := by rw [List.length_append, leB_length]; rfl
  have R4 := HR3.out
  rw [hl] at R4
  exact ⟨p2, c2, o2, congrArg (fun m => Ending.returned (.slice p2 m c2)) hl, R4, H2.out⟩
set_option maxHeartbeats 1600000 in
theorem renc5 (n : Nat) (hn : n < 18446744073709551616) (h1 : ¬ n ≤ 65535) (h2 : n ≤ 4294967295) (w : World) : Calls Try.prog 41 #[.int .u64 (n : Int)] w fun e w' => ∃ p c o, e = .returned (.slice p (4 + 1) c) ∧ Row w' 5 (.slice p (4 + 1) c) (254 :: leB n 4) o ∧ (∀ g, o = some g → w.heap.size ≤ g) ∧ Below w.heap.size w w' := by
  obtain ⟨i0, hi, hz0, hz1, hz2⟩ := info_parts u8inf
  have PL := Lib.hid (rlow n 4 hn (by decide) (w.alloc (.cells #[.int .u8 254] 5)))
  have R0 : Row (w.alloc (.cells #[.int .u8 254] 5)) 5 (.slice (some ⟨w.heap.size, 0, none⟩) 1 1) [254] (some w.heap.size) :=
    .inr ⟨w.heap.size, 1, #[.int .u8 254], rfl, rfl, Blk.new _ _ _, Nat.le_refl _, Nat.le_refl _, (by decide), rfl⟩
  have HR := Lib.hid R0
  have d1 : decide ((n : Int) < 253) = false := decide_eq_false (by omega); have d2 : decide ((n : Int) ≤ 65535) = false := decide_eq_false (by omega); have d3 : decide ((n : Int) ≤ 4294967295) = true := decide_eq_true (by omega)
  clear R0 hn h1 h2
  go_enter Try.func41, Try.ntmps41
  go_wp2_with fail
  refine PL.out.mono ?_
  rintro e w1 ⟨p1, c1, o1, rfl, R1, ho1, hb1⟩
  have R2 := HR.out.keep (Keep.of_below (X := fun _ => False) hb1) (fun _ _ h => h)
  obtain ⟨_, _, e1, hy, _⟩ := R1.form
  cases e1
  rw [leB_length] at hy
  obtain ⟨v2, w2, o2, run2, R3, ho2, k2⟩ := row_appendL (P := Try.prog) 26 26 i0 (.int .u8 0) Try.underlying26 hi hz0 hz1 hz2 rfl R2 (p := p1) (c := c1) (ys := leB n 4) (by rw [leB_length]; exact hy) (by rw [leB_length]; decide)
  have hbw : Below w.heap.size w w1 := ((Below.refl w.heap.size w).alloc (Nat.le_refl _) _).trans (hb1.mono (by simp))
  have H2 := Lib.hid (own_step rfl hbw (fun g hg => by cases hg; exact Nat.le_refl _) ho2 k2)
  rw [leB_length] at run2
  obtain ⟨p2, c2, rfl, _⟩ := R3.form
  have HR3 := Lib.hid R3
  clear R1 R2 R3 ho1 hb1 hbw hy ho2 k2
  go_wp2_with (at_builtin; refine wpl_append rfl _ _ 26 rfl rfl rfl run2 ?_)
  go_ret
  have hl : ([254] ++ leB n 4).length = 4 + 1 := by rw [List.length_append, leB_length]; rfl
  have R4 := HR3.out
  rw [hl] at R4
  exact ⟨p2, c2, o2, congrArg (fun m => Ending.returned (.slice p2 m c2)) hl, R4, H2.out⟩
set_option maxHeartbeats 1600000 in
theorem renc9 (n : Nat) (hn : n < 18446744073709551616) (h2 : ¬ n ≤ 4294967295) (w : World) : Calls Try.prog 41 #[.int .u64 (n : Int)] w fun e w' => ∃ p c o, e = .returned (.slice p (8 + 1) c) ∧ Row w' 5 (.slice p (8 + 1) c) (255 :: leB n 8) o ∧ (∀ g, o = some g → w.heap.size ≤ g) ∧ Below w.heap.size w w' := by
  obtain ⟨i0, hi, hz0, hz1, hz2⟩ := info_parts u8inf
  have PL := Lib.hid (rlow n 8 hn (by decide) (w.alloc (.cells #[.int .u8 255] 5)))
  have R0 : Row (w.alloc (.cells #[.int .u8 255] 5)) 5 (.slice (some ⟨w.heap.size, 0, none⟩) 1 1) [255] (some w.heap.size) :=
    .inr ⟨w.heap.size, 1, #[.int .u8 255], rfl, rfl, Blk.new _ _ _, Nat.le_refl _, Nat.le_refl _, (by decide), rfl⟩
  have HR := Lib.hid R0
  have d1 : decide ((n : Int) < 253) = false := decide_eq_false (by omega); have d2 : decide ((n : Int) ≤ 65535) = false := decide_eq_false (by omega); have d3 : decide ((n : Int) ≤ 4294967295) = false := decide_eq_false (by omega)
  clear R0 hn h2
  go_enter Try.func41, Try.ntmps41
  go_wp2_with fail
  refine PL.out.mono ?_
  rintro e w1 ⟨p1, c1, o1, rfl, R1, ho1, hb1⟩
  have R2 := HR.out.keep (Keep.of_below (X := fun _ => False) hb1) (fun _ _ h => h)
  obtain ⟨_, _, e1, hy, _⟩ := R1.form
  cases e1
  rw [leB_length] at hy
  obtain ⟨v2, w2, o2, run2, R3, ho2, k2⟩ := row_appendL (P := Try.prog) 26 26 i0 (.int .u8 0) Try.underlying26 hi hz0 hz1 hz2 rfl R2 (p := p1) (c := c1) (ys := leB n 8) (by rw [leB_length]; exact hy) (by rw [leB_length]; decide)
  have hbw : Below w.heap.size w w1 := ((Below.refl w.heap.size w).alloc (Nat.le_refl _) _).trans (hb1.mono (by simp))
  have H2 := Lib.hid (own_step rfl hbw (fun g hg => by cases hg; exact Nat.le_refl _) ho2 k2)
  rw [leB_length] at run2
  obtain ⟨p2, c2, rfl, _⟩ := R3.form
  have HR3 := Lib.hid R3
  clear R1 R2 R3 ho1 hb1 hbw hy ho2 k2
  go_wp2_with (at_builtin; refine wpl_append rfl _ _ 26 rfl rfl rfl run2 ?_)
  go_ret
  have hl : ([255] ++ leB n 8).length = 8 + 1 := by rw [List.length_append, leB_length]; rfl
  have R4 := HR3.out
  rw [hl] at R4
  exact ⟨p2, c2, o2, congrArg (fun m => Ending.returned (.slice p2 m c2)) hl, R4, H2.out⟩
/-- Encode -/
theorem renc (n : Nat) (hn : n < 18446744073709551616) (w : World) : Calls Try.prog 41 #[.int .u64 (n : Int)] w fun e w' => ∃ p c o, e = .returned (.slice p (encS n).length c) ∧ Row w' 5 (.slice p (encS n).length c) (encS n) o ∧ (∀ g, o = some g → w.heap.size ≤ g) ∧ Below w.heap.size w w' := by
  by_cases h1 : n < 253
  · rw [encS_1 h1]; exact renc1 n h1 w
  · by_cases h2 : n ≤ 65535
    · rw [encS_3 h1 h2, List.length_cons, leB_length]; exact renc3 n hn h1 h2 w
    · by_cases h3 : n ≤ 4294967295
      · rw [encS_5 h1 h2 h3, List.length_cons, leB_length]; exact renc5 n hn h2 h3 w
      · rw [encS_9 h1 h2 h3, List.length_cons, leB_length]; exact renc9 n hn h3 w
end Go.Proofs.Ytppcccocnmhbgaa
