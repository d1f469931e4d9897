/- SHA-256, the document's: padded. -/
import Derived.Test.YtppcccocnmhbgaaDoorShaRef4
import Derived.Test.YtppcccocnmhbgaaDoorSha8
namespace Go.Proofs.YtppcccocnmhbgaaDoor
open Go Go.RowKit
set_option linter.unusedSimpArgs false
set_option linter.unusedVariables false
set_option maxRecDepth 100000

/-- ONE byte behind a row, laid in a block of its own first -/
theorem row_append1 {P : Program} {w : World} {e : TypeId} {v : Value} {xs : List Int} {o : Option Nat} (t ty : TypeId) (i : TypeInfo) (z : Value) (ht : P.underlying t = some (.slice e)) (hi : P.info? e = some i) (hz : i.zero = some z) (hs : i.size = 1) (hby : i.bytes = 1) (hzs : z.cells.size = 1)
    (h : Row w e v xs o) (u : Int) (hb : xs.length + 1 ≤ 140737488355328) :
    ∃ p' c' w' o', (Builtin.append_ #[t, t] ty #[v, .slice (some ⟨w.heap.size, 0, none⟩) 1 1]).run P (w.alloc (.cells #[.int .u8 u] e)) = .ok (.slice p' (xs.length + 1) c') w' ∧ Row w' e (.slice p' (xs.length + 1) c') (xs ++ [u]) o' ∧ (o' = o ∨ ∃ g', o' = some g' ∧ w.heap.size ≤ g') ∧ Keep (fun k => o = some k) w w' := by
  have h' := h.keep (X := fun _ => False) ((Keep.refl _ w).alloc (.cells #[.int .u8 u] e)) (fun _ _ h => h)
  obtain ⟨v', w', o', r1, r2, r3, r4⟩ := row_appendL (P := P) t ty i z ht hi hz hs hby hzs h' (p := some ⟨w.heap.size, 0, none⟩) (c := 1) (ys := [u]) (Lib.BytesIn.of_cells fun j hj => by
    match j, hj with
    | 0, _ => rw [Addr.add_lit, (Blk.new w #[.int .u8 u] e).cell]; rfl
    | j + 1, hj => simp at hj) (by simpa using hb)
  obtain ⟨p, cap', rfl, _⟩ := r2.form
  rw [show (xs ++ [u]).length = xs.length + 1 from by simp] at r1 r2
  exact ⟨p, cap', w', o', r1, r2, r3.imp id (fun ⟨g', h1, h2⟩ => ⟨g', h1, by simp at h2; omega⟩), ((Keep.refl _ w).alloc _).trans r4⟩
/-- the bytes and so much of what stands behind them -/
def pad1 (ys : List Int) (j : Nat) : List Int := ys ++ [128] ++ List.replicate j 0
def pad2 (ys : List Int) (k : Nat) : List Int := pad1 ys (zpad ys.length) ++ (bits8 ys.length).take k
theorem pad1_length (ys : List Int) (j : Nat) : (pad1 ys j).length = ys.length + 1 + j := by simp [pad1]; omega
theorem pad1_succ (ys : List Int) (j : Nat) : pad1 ys j ++ [0] = pad1 ys (j + 1) := by
  unfold pad1; rw [List.append_assoc, ← List.replicate_succ']
theorem pad2_zero (ys : List Int) : pad2 ys 0 = pad1 ys (zpad ys.length) := by simp [pad2]
theorem pad2_length (ys : List Int) (k : Nat) (h : k ≤ 8) : (pad2 ys k).length = ys.length + 1 + zpad ys.length + k := by
  unfold pad2; rw [List.length_append, pad1_length, List.length_take]; simp [bits8]; omega
theorem pad2_succ (ys : List Int) (k : Nat) (h : k < 8) : pad2 ys k ++ [(((ys.length * 8) / 2 ^ (56 - 8 * k) % 256 : Nat) : Int)] = pad2 ys (k + 1) := by
  unfold pad2
  rw [List.append_assoc]
  congr 1
  rw [List.take_succ_eq_append_getElem (by simp [bits8]; exact h)]
  congr 2
  simp [bits8]
theorem pad2_end (ys : List Int) : pad2 ys 8 = padS ys := by
  unfold pad2 padS pad1
  rw [List.take_of_length_le (by simp [bits8])]
theorem zpad_end (n : Nat) : (n + 1 + zpad n) % 64 = 56 := by unfold zpad; omega
theorem zpad_not (n j : Nat) (h : j < zpad n) : (n + 1 + j) % 64 ≠ 56 := by unfold zpad at h; omega
theorem zpad_lt (n : Nat) : zpad n < 64 := by unfold zpad; omega
theorem u8info : (Tryd.prog.info? 5).map (fun i => (i.zero, i.size, i.bytes)) = some (some (.int .u8 0), 1, 1) := by kernel_rfl
/-- a row without bytes in a new block -/
theorem Row.fresh (w : World) (e : TypeId) : Row (w.alloc (.cells #[] e)) e (.slice (some ⟨w.heap.size, 0, none⟩) 0 0) [] (some w.heap.size) :=
  .inr ⟨w.heap.size, 0, #[], rfl, rfl, Blk.new _ _ _, Nat.le_refl _, Nat.le_refl _, Nat.zero_le _, rfl⟩
set_option maxHeartbeats 3200000 in
theorem rpadded (ys : List Int) (q : Option Addr) (c : Nat) (w : World) (hy : Lib.BytesIn w q ys.length ys) (hn : ys.length ≤ 140737488355200) :
    Calls Tryd.prog 27 #[.slice q ys.length c] w fun e w' => ∃ p c' o, e = .returned (.slice p (padS ys).length c') ∧ Row w' 5 (.slice p (padS ys).length c') (padS ys) o ∧ (∀ g, o = some g → w.heap.size ≤ g) ∧ Below w.heap.size w w' := by
  obtain ⟨i0, hi, hz0, hz1, hz2⟩ := info_parts u8info
  have K0 : Keep (fun _ => False) w (w.alloc (.cells #[] 5)) := (Keep.refl _ w).alloc _
  obtain ⟨v1, w1, o1, run1, R1, ho1, k1⟩ := row_appendL (P := Tryd.prog) 22 22 i0 (.int .u8 0) Tryd.underlying22 hi hz0 hz1 hz2 rfl (Row.fresh w 5) (c := c) (bytes_keep hy K0 (fun _ _ _ h => h)) (by simp; omega)
  rw [List.nil_append] at R1
  obtain ⟨p1, c1, rfl, _⟩ := R1.form
  obtain ⟨p2, c2, w2, o2, run2, R2, ho2, k2⟩ := row_append1 (P := Tryd.prog) 22 22 i0 (.int .u8 0) Tryd.underlying22 hi hz0 hz1 hz2 rfl R1 128 (by omega)
  have g1 : ∀ g, o1 = some g → w.heap.size ≤ g := fun g hg => by
    rcases ho1 with h | ⟨g', h1, h2⟩
    · rw [h] at hg; cases hg; exact Nat.le_refl _
    · rw [h1] at hg; cases hg; simp at h2; omega
  have B1 : Below w.heap.size w w1 := (K0.trans' (Y := fun k => some w.heap.size = some k) k1 (fun k hk => .inr (by cases hk; exact Nat.le_refl _))).below (Nat.le_refl _) (fun k h => h.elim)
  have g2 : ∀ g, o2 = some g → w.heap.size ≤ g := fun g hg => by
    rcases ho2 with h | ⟨g', h1, h2⟩
    · exact g1 g (by rw [← h]; exact hg)
    · rw [h1] at hg; cases hg; have := B1.size; omega
  have B2 : Below w.heap.size w w2 := B1.trans (k2.below B1.size (fun k hk => g1 k hk))
  obtain ⟨N, hN⟩ : ∃ N, N = ys.length := ⟨_, rfl⟩
  have HS := Lib.hid (And.intro R2 (And.intro g2 B2))
  have HI := Lib.hid (And.intro hi (And.intro hz0 (And.intro hz1 hz2)))
  rw [← hN] at run1 run2 hn
  have HN := Lib.hid hN
  clear R1 R2 g2 B2 g1 B1 k1 k2 ho1 ho2 K0 hi hz0 hz1 hz2 hy hN
  go_enter Tryd.func27, Tryd.ntmps27
  rw [← HN.out]
  go_wp2_with (first | (at_builtin; refine wpl_append rfl _ _ 22 rfl rfl rfl run1 ?_) | (at_builtin; refine wpl_append rfl _ _ 22 rfl rfl rfl run2 ?_))
  clear run1 run2
  generalize hgw : w.heap.size = G at *
  go_loopg [3] (zpad N) (fun gh v wx => ∃ (j m : Nat) (p : Option Addr) (c' : Nat) (o : Option Nat), m ≤ 140737488355300 ∧ v = .slice p m c' ∧ gh = zpad N - j ∧ Hid (m = N + 1 + j ∧ j ≤ zpad N ∧ Row wx 5 (.slice p m c') (pad1 ys j) o ∧ (∀ g, o = some g → G ≤ g) ∧ Below G w wx))
  case atStart =>
    refine ⟨0, N + 1, p2, c2, o2, by omega, rfl, ?_, ⟨rfl, Nat.zero_le _, ?_, HS.out.2.1, HS.out.2.2⟩⟩
    · rfl
    · have := HS.out.1
      rw [← HN.out] at this
      unfold pad1; rw [List.replicate_zero, List.append_nil]; exact this
  case round =>
    obtain ⟨j, m, p, c', o, hm, rfl, hg, HR⟩ := hrel
    have HGK := Lib.hid hg
    clear hg
    by_cases hlt : j < zpad N
    · have hmod : ((m : Int) % 64 != 56) = true := by
        have h1 := zpad_not N j hlt
        have h2 := HR.out.1
        rw [bne_iff_ne]; omega
      obtain ⟨p3, c3, w3, o3, run3, R3, ho3, k3⟩ := row_append1 (P := Tryd.prog) 22 22 i0 (.int .u8 0) Tryd.underlying22 HI.out.1 HI.out.2.1 HI.out.2.2.1 HI.out.2.2.2 rfl (by have := HR.out.2.2.1; exact this) 0 (by rw [pad1_length, ← HN.out]; have := zpad_lt N; omega)
      rw [show (pad1 ys j).length = m from by rw [pad1_length, ← HN.out, HR.out.1]] at run3 R3
      rw [pad1_succ] at R3
      have g3 : ∀ g, o3 = some g → G ≤ g := fun g hg => by
        rcases ho3 with h | ⟨g', h1, h2⟩
        · exact HR.out.2.2.2.1 g (by rw [← h]; exact hg)
        · rw [h1] at hg; cases hg; have := HR.out.2.2.2.2.size; omega
      have B3 : Below G w w3 := HR.out.2.2.2.2.trans (k3.below (by rw [← hgw]; exact HR.out.2.2.2.2.size) (fun k hk => HR.out.2.2.2.1 k hk))
      have H3 := Lib.hid (And.intro R3 (And.intro g3 B3))
      have hms : m + 1 ≤ 140737488355300 := by have h1 := HR.out.1; have := zpad_lt N; omega
      clear R3 g3 B3 ho3 k3
      go_wp2_with (at_builtin; refine wpl_append rfl _ _ 22 rfl rfl rfl run3 ?_)
      go_roundg (zpad N - (j + 1))
      case measure => rw [HGK.out]; omega
      case rel => exact ⟨j + 1, m + 1, p3, c3, o3, hms, rfl, rfl, by rw [HR.out.1]; omega, hlt, H3.out.1, H3.out.2.1, H3.out.2.2⟩
    · have hjz : j = zpad N := by have := HR.out.2.1; omega
      have hmod : ((m : Int) % 64 != 56) = false := by
        have h1 := zpad_end N
        have h2 := HR.out.1
        rw [hjz] at h2
        rw [bne_eq_false_iff_eq]; omega
      have H2 : Hid (m = N + 1 + zpad N ∧ Row wr 5 (.slice p m c') (pad2 ys 0) o ∧ (∀ g, o = some g → G ≤ g) ∧ Below G w wr) := by
        have := HR.out
        rw [hjz] at this
        refine ⟨this.1, ?_, this.2.2.2⟩
        rw [pad2_zero, ← HN.out]; exact this.2.2.1
      clear hjz hlt HR HGK HS
      obtain ⟨M, hM⟩ : ∃ M, M = N * 8 := ⟨_, rfl⟩
      have HMM := Lib.hid hM
      have hM63 : M < 9223372036854775808 := by omega
      have hw1 : IntKind.u64.wrap (N : Int) = (N : Int) := IntWalk.u64_in _ (by omega)
      have hw2 : IntKind.u64.wrap ((N : Int) * 8) = (M : Int) := by rw [hM]; exact (IntWalk.u64_in _ (by omega)).trans (by omega)
      clear hM
      generalize wr = w4 at *
      go_wp2
      go_loopg [3, 22] 8 (fun gh v i wx => ∃ (k m : Nat) (p : Option Addr) (c' : Nat) (o : Option Nat), k ≤ 8 ∧ m ≤ 140737488355308 ∧ v = .slice p m c' ∧ i = .int .i64 (k : Int) ∧ gh = 8 - k ∧ Hid (m = N + 1 + zpad N + k ∧ Row wx 5 (.slice p m c') (pad2 ys k) o ∧ (∀ g, o = some g → G ≤ g) ∧ Below G w wx))
      case atStart => exact ⟨0, m, p, c', o, by omega, by omega, rfl, rfl, rfl, H2.out⟩
      case round =>
        clear H2 hmod
        obtain ⟨k, m, p, c', o, hk, hm, rfl, rfl, hg, HR⟩ := hrel
        have HGK := Lib.hid hg
        clear hg
        by_cases hlt : k < 8
        · have a2 : IntKind.i64.wrap (8 * (k : Int)) = 8 * (k : Int) := by rw [IntKind.wrap_i64]; omega
          have a3 : IntKind.i64.wrap (56 - 8 * (k : Int)) = 56 - 8 * (k : Int) := by rw [IntKind.wrap_i64]; omega
          obtain ⟨p3, c3, w3, o3, run3, R3, ho3, k3⟩ := row_append1 (P := Tryd.prog) 22 22 i0 (.int .u8 0) Tryd.underlying22 HI.out.1 HI.out.2.1 HI.out.2.2.1 HI.out.2.2.2 rfl (by have := HR.out.2.1; exact this) ((M : Int) / 2 ^ (56 - 8 * k) % 256) (by rw [pad2_length _ _ hk, ← HN.out]; have := zpad_lt N; omega)
          rw [show (pad2 ys k).length = m from by rw [pad2_length _ _ hk, ← HN.out, HR.out.1]] at run3 R3
          have hy2 : pad2 ys k ++ [(M : Int) / 2 ^ (56 - 8 * k) % 256] = pad2 ys (k + 1) := by
            rw [HMM.out, HN.out, ← pad2_succ ys k hlt]
            congr 2
          rw [hy2] at R3
          have g3 : ∀ g, o3 = some g → G ≤ g := fun g hg => by
            rcases ho3 with h | ⟨g', h1, h2⟩
            · exact HR.out.2.2.1 g (by rw [← h]; exact hg)
            · rw [h1] at hg; cases hg; have := HR.out.2.2.2.size; omega
          have B3 : Below G w w3 := HR.out.2.2.2.trans (k3.below (by rw [← hgw]; exact HR.out.2.2.2.size) (fun k hk => HR.out.2.2.1 k hk))
          have H3 := Lib.hid (And.intro R3 (And.intro g3 B3))
          have hms : m + 1 ≤ 140737488355308 := by have h1 := HR.out.1; have := zpad_lt N; omega
          clear R3 g3 B3 ho3 k3 hy2
          go_wp2_with (at_builtin; refine wpl_append rfl _ _ 22 rfl rfl rfl run3 ?_)
          go_roundg (8 - (k + 1))
          case measure => rw [HGK.out]; omega
          case rel => exact ⟨k + 1, m + 1, p3, c3, o3, hlt, hms, rfl, rfl, rfl, by rw [HR.out.1]; omega, H3.out.1, H3.out.2.1, H3.out.2.2⟩
        · obtain rfl : k = 8 := by omega
          have hl : m = (padS ys).length := by rw [HR.out.1, ← pad2_end, pad2_length _ _ (Nat.le_refl 8), ← HN.out]
          have HL := Lib.hid hl
          clear hl
          go_wp2
          go_ret
          subst hgw
          refine ⟨p, c', o, by rw [← HL.out]; rfl, ?_, HR.out.2.2.1, HR.out.2.2.2⟩
          have := HR.out.2.1
          rw [pad2_end] at this
          rw [← HL.out]; exact this
end Go.Proofs.YtppcccocnmhbgaaDoor
