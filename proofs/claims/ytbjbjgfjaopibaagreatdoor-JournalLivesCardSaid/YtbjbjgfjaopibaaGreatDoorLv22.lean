import Derived.Test.YtbjbjgfjaopibaaGreatDoorLv21
import Derived.Test.YtbjbjgfjaopibaaGreatDoorLv8
import Derived.Test.YtbjbjgfjaopibaaGreatDoorLv18
import Derived.Test.YtbjbjgfjaopibaaGreatDoorLv12
import Derived.Test.YtbjbjgfjaopibaaGreatDoorLv13
section
/- SHA-256, the document's: padded. -/
namespace Go.Proofs.YtbjbjgfjaopibaaGreatDoor
open Go Go.RowKit
set_option linter.unusedSimpArgs false
set_option linter.unusedVariables false
set_option maxRecDepth 100000

/-- ONE byte behind a row, laid in a block of its own first -/
theorem row_append1 {P : Program} {w : World} {e : TypeId} {v : Value} {xs : List Int} {o : Option Nat} (t ty : TypeId) (i : TypeInfo) (z : Value) (ht : P.underlying t = some (.slice e)) (hi : P.info? e = some i) (hz : i.zero = some z) (hs : i.size = 1) (hby : i.bytes = 1) (hzs : z.cells.size = 1)
    (h : Row w e v xs o) (u : Int) (hb : xs.length + 1 ≤ 140737488355328) :
    ∃ p' c' w' o', (Builtin.append_ #[t, t] ty #[v, .slice (some ⟨w.heap.size, 0, none⟩) 1 1]).run P (w.alloc (.cells #[.int .u8 u] e)) = .ok (.slice p' (xs.length + 1) c') w' ∧ Row w' e (.slice p' (xs.length + 1) c') (xs ++ [u]) o' ∧ (o' = o ∨ ∃ g', o' = some g' ∧ w.heap.size ≤ g') ∧ Keep (fun k => o = some k) w w' := by
  have h' := h.keep (X := fun _ => False) ((Keep.refl _ w).alloc (.cells #[.int .u8 u] e)) (fun _ _ h => h)
  obtain ⟨v', w', o', r1, r2, r3, r4⟩ := row_appendL (P := P) t ty i z ht hi hz hs hby hzs h' (p := some ⟨w.heap.size, 0, none⟩) (c := 1) (ys := [u]) (Lib.BytesIn.of_cells fun j hj => by
    match j, hj with
    | 0, _ => rw [Addr.add_lit, (Blk.new w #[.int .u8 u] e).cell]; rfl
    | j + 1, hj => simp at hj) (by simpa using hb)
  obtain ⟨p, cap', rfl, _⟩ := r2.form
  rw [show (xs ++ [u]).length = xs.length + 1 from by simp] at r1 r2
  exact ⟨p, cap', w', o', r1, r2, r3.imp id (fun ⟨g', h1, h2⟩ => ⟨g', h1, by simp at h2; omega⟩), ((Keep.refl _ w).alloc _).trans r4⟩
/-- the bytes and so much of what stands behind them -/
def pad1 (ys : List Int) (j : Nat) : List Int := ys ++ [128] ++ List.replicate j 0
def pad2 (ys : List Int) (k : Nat) : List Int := pad1 ys (zpad ys.length) ++ (bits8 ys.length).take k
theorem pad1_length (ys : List Int) (j : Nat) : (pad1 ys j).length = ys.length + 1 + j := by simp [pad1]; omega
theorem pad1_succ (ys : List Int) (j : Nat) : pad1 ys j ++ [0] = pad1 ys (j + 1) := by
  unfold pad1; rw [List.append_assoc, ← List.replicate_succ']
theorem pad2_zero (ys : List Int) : pad2 ys 0 = pad1 ys (zpad ys.length) := by simp [pad2]
theorem pad2_length (ys : List Int) (k : Nat) (h : k ≤ 8) : (pad2 ys k).length = ys.length + 1 + zpad ys.length + k := by
  unfold pad2; rw [List.length_append, pad1_length, List.length_take]; simp [bits8]; omega
theorem pad2_succ (ys : List Int) (k : Nat) (h : k < 8) : pad2 ys k ++ [(((ys.length * 8) / 2 ^ (56 - 8 * k) % 256 : Nat) : Int)] = pad2 ys (k + 1) := by
  unfold pad2
  rw [List.append_assoc]
  congr 1
  rw [List.take_succ_eq_append_getElem (by simp [bits8]; exact h)]
  congr 2
  simp [bits8]
theorem pad2_end (ys : List Int) : pad2 ys 8 = padS ys := by
  unfold pad2 padS pad1
  rw [List.take_of_length_le (by simp [bits8])]
theorem zpad_end (n : Nat) : (n + 1 + zpad n) % 64 = 56 := by unfold zpad; omega
theorem zpad_not (n j : Nat) (h : j < zpad n) : (n + 1 + j) % 64 ≠ 56 := by unfold zpad at h; omega
theorem zpad_lt (n : Nat) : zpad n < 64 := by unfold zpad; omega
theorem u8infoS : (Tryz.prog.info? 5).map (fun i => (i.zero, i.size, i.bytes)) = some (some (.int .u8 0), 1, 1) := by kernel_rfl
/-- a row without bytes in a new block -/
theorem Row.fresh (w : World) (e : TypeId) : Row (w.alloc (.cells #[] e)) e (.slice (some ⟨w.heap.size, 0, none⟩) 0 0) [] (some w.heap.size) :=
  .inr ⟨w.heap.size, 0, #[], rfl, rfl, Blk.new _ _ _, Nat.le_refl _, Nat.le_refl _, Nat.zero_le _, rfl⟩
set_option maxHeartbeats 3200000 in
theorem rpadded (ys : List Int) (q : Option Addr) (c : Nat) (w : World) (hy : Lib.BytesIn w q ys.length ys) (hn : ys.length ≤ 140737488355200) :
    Calls Tryz.prog 94 #[.slice q ys.length c] w fun e w' => ∃ p c' o, e = .returned (.slice p (padS ys).length c') ∧ Row w' 5 (.slice p (padS ys).length c') (padS ys) o ∧ (∀ g, o = some g → w.heap.size ≤ g) ∧ Below w.heap.size w w' := by
  obtain ⟨i0, hi, hz0, hz1, hz2⟩ := info_parts u8infoS
  have K0 : Keep (fun _ => False) w (w.alloc (.cells #[] 5)) := (Keep.refl _ w).alloc _
  obtain ⟨v1, w1, o1, run1, R1, ho1, k1⟩ := row_appendL (P := Tryz.prog) 22 22 i0 (.int .u8 0) Tryz.underlying22 hi hz0 hz1 hz2 rfl (Row.fresh w 5) (c := c) (bytes_keep hy K0 (fun _ _ _ h => h)) (by simp; omega)
  rw [List.nil_append] at R1
  obtain ⟨p1, c1, rfl, _⟩ := R1.form
  obtain ⟨p2, c2, w2, o2, run2, R2, ho2, k2⟩ := row_append1 (P := Tryz.prog) 22 22 i0 (.int .u8 0) Tryz.underlying22 hi hz0 hz1 hz2 rfl R1 128 (by omega)
  have g1 : ∀ g, o1 = some g → w.heap.size ≤ g := fun g hg => by
    rcases ho1 with h | ⟨g', h1, h2⟩
    · rw [h] at hg; cases hg; exact Nat.le_refl _
    · rw [h1] at hg; cases hg; simp at h2; omega
  have B1 : Below w.heap.size w w1 := (K0.trans' (Y := fun k => some w.heap.size = some k) k1 (fun k hk => .inr (by cases hk; exact Nat.le_refl _))).below (Nat.le_refl _) (fun k h => h.elim)
  have g2 : ∀ g, o2 = some g → w.heap.size ≤ g := fun g hg => by
    rcases ho2 with h | ⟨g', h1, h2⟩
    · exact g1 g (by rw [← h]; exact hg)
    · rw [h1] at hg; cases hg; have := B1.size; omega
  have B2 : Below w.heap.size w w2 := B1.trans (k2.below B1.size (fun k hk => g1 k hk))
  obtain ⟨N, hN⟩ : ∃ N, N = ys.length := ⟨_, rfl⟩
  have HS := Lib.hid (And.intro R2 (And.intro g2 B2))
  have HI := Lib.hid (And.intro hi (And.intro hz0 (And.intro hz1 hz2)))
  rw [← hN] at run1 run2 hn
  have HN := Lib.hid hN
  clear R1 R2 g2 B2 g1 B1 k1 k2 ho1 ho2 K0 hi hz0 hz1 hz2 hy hN
  go_enter Tryz.func94, Tryz.ntmps94
  rw [← HN.out]
  go_wp2_with (first | (at_builtin; refine wpl_append rfl _ _ 22 rfl rfl rfl run1 ?_) | (at_builtin; refine wpl_append rfl _ _ 22 rfl rfl rfl run2 ?_))
  clear run1 run2
  generalize hgw : w.heap.size = G at *
  go_loopg [3] (zpad N) (fun gh v wx => ∃ (j m : Nat) (p : Option Addr) (c' : Nat) (o : Option Nat), m ≤ 140737488355300 ∧ v = .slice p m c' ∧ gh = zpad N - j ∧ Hid (m = N + 1 + j ∧ j ≤ zpad N ∧ Row wx 5 (.slice p m c') (pad1 ys j) o ∧ (∀ g, o = some g → G ≤ g) ∧ Below G w wx))
  case atStart =>
    refine ⟨0, N + 1, p2, c2, o2, by omega, rfl, ?_, ⟨rfl, Nat.zero_le _, ?_, HS.out.2.1, HS.out.2.2⟩⟩
    · rfl
    · have := HS.out.1
      rw [← HN.out] at this
      unfold pad1; rw [List.replicate_zero, List.append_nil]; exact this
  case round =>
    obtain ⟨j, m, p, c', o, hm, rfl, hg, HR⟩ := hrel
    have HGK := Lib.hid hg
    clear hg
    by_cases hlt : j < zpad N
    · have hmod : ((m : Int) % 64 != 56) = true := by
        have h1 := zpad_not N j hlt
        have h2 := HR.out.1
        rw [bne_iff_ne]; omega
      obtain ⟨p3, c3, w3, o3, run3, R3, ho3, k3⟩ := row_append1 (P := Tryz.prog) 22 22 i0 (.int .u8 0) Tryz.underlying22 HI.out.1 HI.out.2.1 HI.out.2.2.1 HI.out.2.2.2 rfl (by have := HR.out.2.2.1; exact this) 0 (by rw [pad1_length, ← HN.out]; have := zpad_lt N; omega)
      rw [show (pad1 ys j).length = m from by rw [pad1_length, ← HN.out, HR.out.1]] at run3 R3
      rw [pad1_succ] at R3
      have g3 : ∀ g, o3 = some g → G ≤ g := fun g hg => by
        rcases ho3 with h | ⟨g', h1, h2⟩
        · exact HR.out.2.2.2.1 g (by rw [← h]; exact hg)
        · rw [h1] at hg; cases hg; have := HR.out.2.2.2.2.size; omega
      have B3 : Below G w w3 := HR.out.2.2.2.2.trans (k3.below (by rw [← hgw]; exact HR.out.2.2.2.2.size) (fun k hk => HR.out.2.2.2.1 k hk))
      have H3 := Lib.hid (And.intro R3 (And.intro g3 B3))
      have hms : m + 1 ≤ 140737488355300 := by have h1 := HR.out.1; have := zpad_lt N; omega
      clear R3 g3 B3 ho3 k3
      go_wp2_with (at_builtin; refine wpl_append rfl _ _ 22 rfl rfl rfl run3 ?_)
      go_roundg (zpad N - (j + 1))
      case measure => rw [HGK.out]; omega
      case rel => exact ⟨j + 1, m + 1, p3, c3, o3, hms, rfl, rfl, by rw [HR.out.1]; omega, hlt, H3.out.1, H3.out.2.1, H3.out.2.2⟩
    · have hjz : j = zpad N := by have := HR.out.2.1; omega
      have hmod : ((m : Int) % 64 != 56) = false := by
        have h1 := zpad_end N
        have h2 := HR.out.1
        rw [hjz] at h2
        rw [bne_eq_false_iff_eq]; omega
      have H2 : Hid (m = N + 1 + zpad N ∧ Row wr 5 (.slice p m c') (pad2 ys 0) o ∧ (∀ g, o = some g → G ≤ g) ∧ Below G w wr) := by
        have := HR.out
        rw [hjz] at this
        refine ⟨this.1, ?_, this.2.2.2⟩
        rw [pad2_zero, ← HN.out]; exact this.2.2.1
      clear hjz hlt HR HGK HS
      obtain ⟨M, hM⟩ : ∃ M, M = N * 8 := ⟨_, rfl⟩
      have HMM := Lib.hid hM
      have hM63 : M < 9223372036854775808 := by omega
      have hw1 : IntKind.u64.wrap (N : Int) = (N : Int) := IntWalk.u64_in _ (by omega)
      have hw2 : IntKind.u64.wrap ((N : Int) * 8) = (M : Int) := by rw [hM]; exact (IntWalk.u64_in _ (by omega)).trans (by omega)
      clear hM
      generalize wr = w4 at *
      go_wp2
      go_loopg [3, 22] 8 (fun gh v i wx => ∃ (k m : Nat) (p : Option Addr) (c' : Nat) (o : Option Nat), k ≤ 8 ∧ m ≤ 140737488355308 ∧ v = .slice p m c' ∧ i = .int .i64 (k : Int) ∧ gh = 8 - k ∧ Hid (m = N + 1 + zpad N + k ∧ Row wx 5 (.slice p m c') (pad2 ys k) o ∧ (∀ g, o = some g → G ≤ g) ∧ Below G w wx))
      case atStart => exact ⟨0, m, p, c', o, by omega, by omega, rfl, rfl, rfl, H2.out⟩
      case round =>
        clear H2 hmod
        obtain ⟨k, m, p, c', o, hk, hm, rfl, rfl, hg, HR⟩ := hrel
        have HGK := Lib.hid hg
        clear hg
        by_cases hlt : k < 8
        · have a2 : IntKind.i64.wrap (8 * (k : Int)) = 8 * (k : Int) := by rw [IntKind.wrap_i64]; omega
          have a3 : IntKind.i64.wrap (56 - 8 * (k : Int)) = 56 - 8 * (k : Int) := by rw [IntKind.wrap_i64]; omega
          obtain ⟨p3, c3, w3, o3, run3, R3, ho3, k3⟩ := row_append1 (P := Tryz.prog) 22 22 i0 (.int .u8 0) Tryz.underlying22 HI.out.1 HI.out.2.1 HI.out.2.2.1 HI.out.2.2.2 rfl (by have := HR.out.2.1; exact this) ((M : Int) / 2 ^ (56 - 8 * k) % 256) (by rw [pad2_length _ _ hk, ← HN.out]; have := zpad_lt N; omega)
          rw [show (pad2 ys k).length = m from by rw [pad2_length _ _ hk, ← HN.out, HR.out.1]] at run3 R3
          have hy2 : pad2 ys k ++ [(M : Int) / 2 ^ (56 - 8 * k) % 256] = pad2 ys (k + 1) := by
            rw [HMM.out, HN.out, ← pad2_succ ys k hlt]
            congr 2
          rw [hy2] at R3
          have g3 : ∀ g, o3 = some g → G ≤ g := fun g hg => by
            rcases ho3 with h | ⟨g', h1, h2⟩
            · exact HR.out.2.2.1 g (by rw [← h]; exact hg)
            · rw [h1] at hg; cases hg; have := HR.out.2.2.2.size; omega
          have B3 : Below G w w3 := HR.out.2.2.2.trans (k3.below (by rw [← hgw]; exact HR.out.2.2.2.size) (fun k hk => HR.out.2.2.1 k hk))
          have H3 := Lib.hid (And.intro R3 (And.intro g3 B3))
          have hms : m + 1 ≤ 140737488355308 := by have h1 := HR.out.1; have := zpad_lt N; omega
          clear R3 g3 B3 ho3 k3 hy2
          go_wp2_with (at_builtin; refine wpl_append rfl _ _ 22 rfl rfl rfl run3 ?_)
          go_roundg (8 - (k + 1))
          case measure => rw [HGK.out]; omega
          case rel => exact ⟨k + 1, m + 1, p3, c3, o3, hlt, hms, rfl, rfl, rfl, by rw [HR.out.1]; omega, H3.out.1, H3.out.2.1, H3.out.2.2⟩
        · obtain rfl : k = 8 := by omega
          have hl : m = (padS ys).length := by rw [HR.out.1, ← pad2_end, pad2_length _ _ (Nat.le_refl 8), ← HN.out]
          have HL := Lib.hid hl
          clear hl
          go_wp2
          go_ret
          subst hgw
          refine ⟨p, c', o, by rw [← HL.out]; rfl, ?_, HR.out.2.2.1, HR.out.2.2.2⟩
          have := HR.out.2.1
          rw [pad2_end] at this
          rw [← HL.out]; exact this
end Go.Proofs.YtbjbjgfjaopibaaGreatDoor
end

section
/- SHA-256, the document's: Sum, Double. -/
namespace Go.Proofs.YtbjbjgfjaopibaaGreatDoor
open Go Go.RowKit
set_option linter.unusedSimpArgs false
set_option linter.unusedVariables false
set_option maxRecDepth 100000

theorem msgX_at (bs : List Int) (a : Nat) (i : Nat) (hi : i < 16) : msgX (fun j => bs.getD (a + j) 0) i = msgAt bs a i := by
  unfold msgX msgAt
  simp only [Nat.add_assoc]
theorem padS_range (ys : List Int) (hr : ∀ y ∈ ys, 0 ≤ y ∧ y ≤ 255) : ∀ y ∈ padS ys, 0 ≤ y ∧ y ≤ 255 := by
  intro y hy
  rw [padS_tail, List.mem_append] at hy
  rcases hy with h | h
  · exact hr y h
  · exact tailS_range _ y h
theorem getD_range {l : List Int} (h : ∀ y ∈ l, 0 ≤ y ∧ y ≤ 255) (i : Nat) : 0 ≤ l.getD i 0 ∧ l.getD i 0 ≤ 255 := by
  rw [List.getD_eq_getElem?_getD]
  by_cases hi : i < l.length
  · rw [List.getElem?_eq_getElem hi]; exact h _ (List.getElem_mem hi)
  · rw [List.getElem?_eq_none (by omega)]; exact ⟨Int.le_refl 0, by decide⟩
theorem u32c_s0 : (#[.int .u32 1779033703, .int .u32 3144134277, .int .u32 1013904242, .int .u32 2773480762, .int .u32 1359893119, .int .u32 2600822924, .int .u32 528734635, .int .u32 1541459225] : Array Value) = (u32c s0 8).toArray := by kernel_rfl
/-- the hash's bytes, so many of them -/
def obF (σ : Nat → B32) (j i : Nat) : Int := if i < j then ((hashByte σ i : Nat) : Int) else 0
theorem ob_set (σ : Nat → B32) (j : Nat) (h : j < 32) : (u8c (obF σ j) 32).toArray.setIfInBounds j (.int .u8 (hashByte σ j : Nat)) = (u8c (obF σ (j + 1)) 32).toArray := by
  rw [List.setIfInBounds_toArray]
  congr 1
  apply List.ext_getElem?
  intro i
  rw [List.getElem?_set]
  by_cases hj : j = i
  · subst hj
    rw [if_pos rfl, if_pos (by rw [u8c_length]; exact h), u8c_get _ _ _ h]
    unfold obF; rw [if_pos (by omega)]
  · rw [if_neg hj]
    by_cases hi : i < 32
    · rw [u8c_get _ _ _ hi, u8c_get _ _ _ hi]
      unfold obF
      by_cases h1 : i < j
      · rw [if_pos h1, if_pos (by omega)]
      · rw [if_neg h1, if_neg (by omega)]
    · rw [List.getElem?_eq_none (by rw [u8c_length]; omega), List.getElem?_eq_none (by rw [u8c_length]; omega)]
theorem ob_hash (σ : Nat → B32) : u8c (obF σ 32) 32 = hls (hnum (fun j => ((hashByte σ j : Nat) : Int)) 32) := by
  rw [← hls_of (fun j => ((hashByte σ j : Nat) : Int)) (fun i _ => by have := hashByte_lt σ i; omega)]
  unfold u8c
  apply List.map_congr_left
  intro i hi
  unfold obF
  rw [if_pos (List.mem_range.1 hi)]
abbrev hz32 : Array Value := #[.int .u8 0, .int .u8 0, .int .u8 0, .int .u8 0, .int .u8 0, .int .u8 0, .int .u8 0, .int .u8 0, .int .u8 0, .int .u8 0, .int .u8 0, .int .u8 0, .int .u8 0, .int .u8 0, .int .u8 0, .int .u8 0, .int .u8 0, .int .u8 0, .int .u8 0, .int .u8 0, .int .u8 0, .int .u8 0, .int .u8 0, .int .u8 0, .int .u8 0, .int .u8 0, .int .u8 0, .int .u8 0, .int .u8 0, .int .u8 0, .int .u8 0, .int .u8 0]
theorem ob_zero (σ : Nat → B32) : hz32 = (u8c (obF σ 0) 32).toArray := by
  show _ = ((List.range 32).map fun i => Value.int .u8 (if i < 0 then ((hashByte σ i : Nat) : Int) else 0)).toArray
  rw [List.map_congr_left (g := fun _ => Value.int .u8 0) (fun j _ => by rw [if_neg (by omega)])]
  rfl
theorem u32info8 (σ : Nat → B32) : (Tryz.prog.info? 123).map (·.size) = some (u32c σ 8).toArray.size := by rw [List.size_toArray, u32c_length]; kernel_rfl
theorem u32all (σ : Nat → B32) : (u32c σ 8).toArray.all (·.oneCell') = true := by
  rw [Array.all_eq_true_iff_forall_mem]
  intro u hu
  exact u32c_one _ _ u (by simpa using hu)
theorem u32range {w : World} {g : Nat} {σ : Nat → B32} {t : TypeId} (h : Blk w g (u32c σ 8).toArray t) : w.rangeAt g 0 (u32c σ 8) := fun j v hv => by
  rw [Nat.zero_add, h.cell]; simpa using hv
theorem u32next (xs : List Int) (k : Nat) : u32c (blockS (blocksS xs k) (msgX fun j => xs.getD (64 * k + j) 0)) 8 = u32c (blocksS xs (k + 1)) 8 :=
  u32c_ext fun i hi => blockS_congr (fun _ _ => rfl) (fun j hj => msgX_at _ _ _ hj) i hi
set_option maxHeartbeats 6400000 in
theorem rsha (ys : List Int) (q : Option Addr) (c : Nat) (w : World) (hy : Lib.BytesIn w q ys.length ys) (hr : ∀ y ∈ ys, 0 ≤ y ∧ y ≤ 255) (hn : ys.length ≤ 140737488355200) :
    Calls Tryz.prog 84 #[.slice q ys.length c] w fun e w' => e = .returned (hv (shaN ys)) ∧ Below w.heap.size w w' := by
  have L := two_new w hz32 #[.int .u32 1779033703, .int .u32 3144134277, .int .u32 1013904242, .int .u32 2773480762, .int .u32 1359893119, .int .u32 2600822924, .int .u32 528734635, .int .u32 1541459225] 104 123
  have hs2 : ((w.alloc (.cells hz32 104)).alloc (.cells #[.int .u32 1779033703, .int .u32 3144134277, .int .u32 1013904242, .int .u32 2773480762, .int .u32 1359893119, .int .u32 2600822924, .int .u32 528734635, .int .u32 1541459225] 123)).heap.size = w.heap.size + 2 := by simp
  have PP := Lib.hid (rpadded ys q c _ (bytes_keep hy (Keep.of_below (X := fun _ => False) L.2.2) (fun _ _ _ h => h)) hn)
  have HR := Lib.hid hr
  have HL := Lib.hid L
  have HS2 := Lib.hid hs2
  clear L hy hr hs2
  go_enter Tryz.func84, Tryz.ntmps84
  go_upto_region 2 with fail
  generalize (w.alloc (.cells hz32 104)).alloc (.cells #[.int .u32 1779033703, .int .u32 3144134277, .int .u32 1013904242, .int .u32 2773480762, .int .u32 1359893119, .int .u32 2600822924, .int .u32 528734635, .int .u32 1541459225] 123) = w2 at *
  generalize hgw : w.heap.size = rb at *
  rw [u32c_s0] at HL
  go_wp2_with fail
  refine PP.out.mono ?_
  rintro e w3 ⟨p, c', o, rfl, R3, hg3, hb3⟩
  have HT64 := padS_mod ys
  have HTp : 0 < (padS ys).length := by rw [padS_length]; omega
  have HTm : (padS ys).length ≤ 140737488355300 := by rw [padS_length]; have := zpad_lt ys.length; omega
  obtain ⟨q3, c3, e3, BI, hle, hcm, hq3⟩ := R3.form
  cases e3
  obtain ⟨g, rfl, rfl, hgl⟩ : ∃ g, o = some g ∧ p = some ⟨g, 0, none⟩ ∧ g < w3.heap.size := by
    rcases hq3 with ⟨_, h, _⟩ | h
    · rw [h] at HTp; simp at HTp
    · exact h
  have hgb := hg3 g rfl
  rw [HS2.out] at hgb
  have HBI := Lib.hid BI
  have BS3 := Lib.hid (And.intro (HL.out.2.1.beyond hb3) hb3)
  generalize hxs : padS ys = xs at *
  generalize hT : xs.length = T at *
  unfold maxLen at hcm
  have HX := Lib.hid hxs
  have HHT := Lib.hid hT
  have HMOD := Lib.hid HT64
  clear R3 hg3 hb3 BI hq3 hxs hT HT64 PP
  go_wp2_with fail
  go_loopg [5] (T / 64) (fun gh v wx => ∃ k A : Nat, A ≤ T ∧ v = .int .i64 (A : Int) ∧ gh = T / 64 - k ∧ Hid (A = 64 * k ∧ Blk wx (rb + 1) (u32c (blocksS xs k) 8).toArray 123 ∧ Keep (fun g => g = rb + 1) w3 wx))
  case atStart => exact ⟨0, 0, Nat.zero_le _, rfl, rfl, rfl, BS3.out.1, Keep.refl _ _⟩
  case round =>
    obtain ⟨k, A, hA, rfl, hg, HK⟩ := hrel
    have HGK := Lib.hid hg
    clear hg
    by_cases hlt : A < T
    · have h64 : A + 64 ≤ T := by have h1 := HK.out.1; have h2 := HMOD.out; omega
      have hcc : A + 64 ≤ c' := by omega
      have HB1 := HK.out.2.1
      have HD := Lib.hid (And.intro HK.out.2.2 HB1)
      have hgr : g < wr.heap.size := Nat.lt_of_lt_of_le hgl HK.out.2.2.size
      have cells : ∀ w0, Below wr.heap.size wr w0 → ∀ j, j < 64 → w0.cell? ⟨g, A + j, none⟩ = some (.int .u8 (xs.getD (A + j) 0)) := fun w0 hb j hj => by
        rw [hb.cell (p := ⟨g, A + j, none⟩) hgr, HK.out.2.2.cell (p := ⟨g, A + j, none⟩) hgl (by show ¬ g = rb + 1; omega)]
        obtain ⟨b, o, e, hc⟩ := HBI.out.at HTp
        cases e
        have := hc (A + j) (by omega)
        rw [Nat.zero_add] at this; exact this
      have RM := Lib.hid (fun w0 hb => rmix (blocksS xs k) g A (c' - A) (fun j => xs.getD (A + j) 0) (fun j _ => getD_range (by rw [← HX.out]; exact padS_range ys HR.out) _) w0 (cells w0 hb))
      have LD : ∀ w0, Below wr.heap.size wr w0 → w0.rangeAt (rb + 1) 0 (u32c (blocksS xs k) 8) := fun w0 hb => u32range (HB1.beyond hb)
      have HLD := Lib.hid LD
      have I8 := u32info8 (blocksS xs k)
      have hrbl := HB1.lt
      have HBB := Lib.hid HB1
      have s1 : IntKind.i64.wrap ((A : Int) + 64) = (A : Int) + 64 := by rw [IntKind.wrap_i64]; omega
      have s2 : 0 ≤ (A : Int) + 64 := by omega
      have s3 : (A : Int) + 64 ≤ (c' : Int) := by omega
      have s4 : ((A : Int) + 64).toNat = A + 64 := by omega
      have s5 : ¬ c' = A := by omega
      have s6 : A + 64 - A = 64 := by omega
      have s7 : A ≤ A + 64 := by omega
      clear cells LD HB1
      go_upto_region 6 with fail
      refine wp_region_last 7 (fun w' => Below wr.heap.size wr w') (by kernel_rfl) ((Below.refl _ _).drew) (fun hS => ?_)
      refine wpAnyL_take (i := 0) (oi := ⟨_, _, _, _, _, _⟩) (v := .agg (u32c (blocksS xs k) 8).toArray) rfl (by kernel_rfl) (by kernel_rfl) (by kernel_rfl) (by kernel_rfl) (fun _ _ _ h => h) (yieldsIf_load_mid (by rfl) 123 (.tmp 3) rfl (rb + 1) 0 rfl (u32c (blocksS xs k) 8) (.array 8 122) (fun w0 hs => HLD.out w0 hs) Tryz.underlying123 rfl I8) hS ?_
      try simp only [Act.put, List.setIfInBounds_toArray, List.set_cons_zero, List.set_cons_succ]
      refine tkL 1 (v := ?_) rfl (by kernel_rfl) ⟨by rfl, ?_⟩ hS ?_
      rotate_left
      · intro w0 hs; clear hs; go_simp; try (with_reducible rfl)
      try simp only [Act.put, List.setIfInBounds_toArray, List.set_cons_zero, List.set_cons_succ]
      refine tkL 2 (v := ?_) rfl (by kernel_rfl) ⟨by rfl, ?_⟩ hS ?_
      rotate_left
      · intro w0 hs; clear hs; go_simp; try (with_reducible rfl)
      try simp only [Act.put, List.setIfInBounds_toArray, List.set_cons_zero, List.set_cons_succ]
      refine tkL 3 (v := ?_) rfl (by kernel_rfl) ⟨by rfl, ?_⟩ hS ?_
      rotate_left
      · intro w0 hs; clear hs; go_simp; try (with_reducible rfl)
      try simp only [Act.put, List.setIfInBounds_toArray, List.set_cons_zero, List.set_cons_succ]
      refine tkL 4 (v := ?_) rfl (by kernel_rfl) ⟨by rfl, ?_⟩ hS ?_
      rotate_left
      · intro w0 hs; clear hs; go_simp; try (with_reducible rfl)
      try simp only [Act.put, List.setIfInBounds_toArray, List.set_cons_zero, List.set_cons_succ]
      refine tkL 5 (v := ?_) rfl (by kernel_rfl) ⟨by rfl, ?_⟩ hS ?_
      rotate_left
      · intro w0 hs; clear hs; go_simp; try (with_reducible rfl)
      try simp only [Act.put, List.setIfInBounds_toArray, List.set_cons_zero, List.set_cons_succ]
      refine wpAnyL_one (i := 6) (oi := ⟨_, _, _, _, _, _⟩) rfl (by kernel_rfl) (fun K hK => ?_)
      rw [if_pos (by rfl)]
      go_step
      refine (RM.out _ hS).mono ?_
      rintro e v1 ⟨rfl, hv1⟩
      simp only []
      have hS' := (hS.trans (hv1.mono hS.size))
      refine hK.out _ _ (.inr hS') ?_
      clear hS hK
      have hS := hS'; clear hS'
      try simp only [Act.put, List.setIfInBounds_toArray, List.set_cons_zero, List.set_cons_succ]
      refine wpAnyL_one (i := 7) (oi := ⟨_, _, _, _, _, _⟩) rfl (by kernel_rfl) (fun K hK => ?_)
      rw [if_pos (by rfl)]
      have BL := HBB.out.beyond hS
      refine wp_store_mid 123 (.tmp 3) (.tmp 23) rfl (rb + 1) 0 (u32c (blockS (blocksS xs k) (msgX fun j => xs.getD (A + j) 0)) 8).toArray rfl rfl (by have := BL.there; rw [List.size_toArray, u32c_length] at this ⊢; exact this) (u32info8 _) (u32all _) ?_
      refine hK.out _ _ (.inl rfl) ?_
      clear hK
      try simp only [Act.put, List.setIfInBounds_toArray, List.set_cons_zero, List.set_cons_succ]
      refine wpAnyL_done (by kernel_rfl) ?_ _
      have HE := Lib.hid (And.intro hS BL)
      clear hS BL hv1 s1 s2 s3 s4 s5 s6 s7
      go_wp2
      go_roundg (T / 64 - (k + 1))
      case measure => rw [HGK.out]; have := HK.out.1; omega
      case rel =>
        refine ⟨k + 1, A + 64, h64, rfl, rfl, by rw [HK.out.1]; omega, ?_, ?_⟩
        · have := HE.out.2.setAll (u32c (blockS (blocksS xs k) (msgX fun j => xs.getD (A + j) 0)) 8).toArray (by simp [u32c_length])
          rw [show u32c (blocksS xs (k + 1)) 8 = u32c (blockS (blocksS xs k) (msgX fun j => xs.getD (A + j) 0)) 8 from by rw [HK.out.1, u32next]]
          exact this
        · exact HK.out.2.2.trans ((Keep.of_below HE.out.1).trans (Keep.setCells (X := fun g => g = rb + 1) (.inl rfl) _ _ (Keep.refl _ _)))
    · have hkk : k = T / 64 := by have h1 := HK.out.1; have h2 := HMOD.out; omega
      have HS8 : Hid (shaN ys = hnum (fun j => ((hashByte (blocksS xs k) j : Nat) : Int)) 32) := by
        unfold shaN
        rw [HX.out, HHT.out, hkk]; exact rfl
      have BX := HK.out.2
      obtain ⟨σ, hσ⟩ : ∃ σ, σ = blocksS xs k := ⟨_, rfl⟩
      rw [← hσ] at BX HS8
      have B8 := Lib.hid (BX.1.beyond ((Below.refl wr.heap.size wr).alloc (Nat.le_refl _) (.cells hz32 104)))
      have BH := Lib.hid (And.intro (Blk.new wr hz32 104) ((Below.refl wr.heap.size wr).alloc (Nat.le_refl _) (.cells hz32 104)))
      have hsb := BX.1.lt
      have KX := Lib.hid (BX.2)
      have K33 := Lib.hid BS3.out.2
      clear hσ hkk BX HK HGK
      go_upto_region 8 with fail
      generalize wr.alloc (.cells hz32 104) = w8 at *
      generalize hhb : wr.heap.size = hb at *
      rw [ob_zero σ] at BH
      go_wp2
      go_loopg [24] 32 (fun gh v wx => ∃ j : Nat, j ≤ 32 ∧ v = .int .i64 (j : Int) ∧ gh = 32 - j ∧ Hid (Blk wx hb (u8c (obF σ j) 32).toArray 104 ∧ Keep (fun g => g = hb) w8 wx))
      case atStart => exact ⟨0, Nat.zero_le _, rfl, rfl, BH.out.1, Keep.refl _ _⟩
      case round =>
        obtain ⟨j, hj, rfl, hg, HJ⟩ := hrel
        have HGJ := Lib.hid hg
        clear hg
        by_cases hlt : j < 32
        · have hqb : (j : Int) / 4 = ((j / 4 : Nat) : Int) := by omega
          have cz : wr.cell? ⟨rb + 1, j / 4, none⟩ = some (.int .u32 (iv (σ (j / 4)))) := by
            rw [(HJ.out.2.blk B8.out (by omega)).cell, List.getElem?_toArray]; exact u32c_get σ 8 _ (by omega)
          have fz := HJ.out.1.free j
          have cb := (HJ.out.1).cell j
          rw [List.getElem?_toArray, u8c_get _ _ _ hlt] at cb
          have q1 : ((j : Int) / 4).toNat = j / 4 := by omega
          have q2 : 0 ≤ (j : Int) / 4 := by omega
          have q3 : (j : Int) / 4 < 8 := by omega
          have q4 : IntKind.i64.wrap (8 * ((j : Int) % 4)) = 8 * ((j : Int) % 4) := by rw [IntKind.wrap_i64]; omega
          have q5 : IntKind.i64.wrap (24 - 8 * ((j : Int) % 4)) = 24 - 8 * ((j : Int) % 4) := by rw [IntKind.wrap_i64]; omega
          have q6 : 0 ≤ 24 - 8 * ((j : Int) % 4) := by omega
          have hbt : iv (σ (j / 4)) / 2 ^ (24 - 8 * (j % 4)) % 256 = ((hashByte σ j : Nat) : Int) := by
            unfold iv hashByte; simp
          clear hqb
          have HBT := Lib.hid hbt
          clear hbt
          go_wp2
          go_roundg (32 - (j + 1))
          case measure => rw [HGJ.out]; omega
          case rel =>
            refine ⟨j + 1, hlt, rfl, rfl, ?_, HJ.out.2.trans ((Keep.refl (fun g => g = hb) wr).set (p := ⟨hb, j, none⟩) (.inl rfl) _)⟩
            have := HJ.out.1.set j (.int .u8 (hashByte σ j : Nat))
            rw [ob_set σ j hlt, ← HBT.out] at this
            exact this
        · obtain rfl : j = 32 := by omega
          obtain ⟨H, hH⟩ : ∃ H, H = hnum (fun j => ((hashByte σ j : Nat) : Int)) 32 := ⟨_, rfl⟩
          have bo : Blk wr hb (hcs H) 104 := by
            have := HJ.out.1
            rw [ob_hash, ← hH] at this
            exact this
          rw [← hH] at HS8
          clear hH
          have kk : Keep (fun g => g = rb + 1 ∨ g = hb) w2 wr := (((Keep.of_below K33.out).trans (KX.out.mono fun g h => .inl h)).trans (Keep.of_below (by rw [hhb]; exact BH.out.2))).trans (HJ.out.2.mono fun g h => .inr h)
          have h3b : w2.heap.size ≤ hb := by
            have h1 := K33.out.size
            have h2 := KX.out.size
            omega
          have br := kk.blk HL.out.1 (by have := HS2.out; omega)
          have KK := Lib.hid kk
          have H3B := Lib.hid h3b
          clear kk h3b
          go_wp2_with (first | (refine wpl_load rfl 104 (.tmp 6) rfl rfl bo Tryz.underlying104 (by rw [hcs_size]; kernel_rfl) ?_) | (refine wpl_store rfl 104 (.tmp 2) (.tmp 40) rfl rfl rfl br (by rw [hcs_size]; rfl) (by rw [hcs_size]; kernel_rfl) (hcs_one H) ?_))
          have bf := br.setAll (hcs H) (by rw [hcs_size]; rfl)
          have b0 := HL.out.2.2
          have b1 := b0.trans (KK.out.below (by rw [← hgw]; exact b0.size) (fun g h => by have := H3B.out; have := HS2.out; rcases h with h | h <;> omega))
          have b2 := below_setCells (B := rb) (g := rb) (Nat.le_refl _) (hcs H).toList 0 wr b1
          exact bodyPost_ret (v := hv H) (results_blk Tryz.results84 _ _ rfl bf Tryz.underlying104 (by rw [hcs_size]; kernel_rfl)) rfl ⟨by rw [HS8.out], by rw [hgw]; exact b2⟩
end Go.Proofs.YtbjbjgfjaopibaaGreatDoor
end

section
/- SHA-256, the document's: Double. -/
namespace Go.Proofs.YtbjbjgfjaopibaaGreatDoor
open Go Go.RowKit
set_option linter.unusedSimpArgs false
set_option linter.unusedVariables false
set_option maxRecDepth 100000

set_option maxHeartbeats 3200000 in
theorem rdouble (ys : List Int) (q : Option Addr) (c : Nat) (w : World) (hy : Lib.BytesIn w q ys.length ys) (hr : ∀ y ∈ ys, 0 ≤ y ∧ y ≤ 255) (hn : ys.length ≤ 140737488355200) :
    Calls Tryz.prog 72 #[.slice q ys.length c] w fun e w' => e = .returned (hv (dblN ys)) ∧ Below w.heap.size w w' := by
  have K0 := (Below.refl w.heap.size w).alloc (Nat.le_refl _) (.cells #[.int .u8 0, .int .u8 0, .int .u8 0, .int .u8 0, .int .u8 0, .int .u8 0, .int .u8 0, .int .u8 0, .int .u8 0, .int .u8 0, .int .u8 0, .int .u8 0, .int .u8 0, .int .u8 0, .int .u8 0, .int .u8 0, .int .u8 0, .int .u8 0, .int .u8 0, .int .u8 0, .int .u8 0, .int .u8 0, .int .u8 0, .int .u8 0, .int .u8 0, .int .u8 0, .int .u8 0, .int .u8 0, .int .u8 0, .int .u8 0, .int .u8 0, .int .u8 0] 104)
  have BR := Lib.hid (And.intro (Blk.new w #[.int .u8 0, .int .u8 0, .int .u8 0, .int .u8 0, .int .u8 0, .int .u8 0, .int .u8 0, .int .u8 0, .int .u8 0, .int .u8 0, .int .u8 0, .int .u8 0, .int .u8 0, .int .u8 0, .int .u8 0, .int .u8 0, .int .u8 0, .int .u8 0, .int .u8 0, .int .u8 0, .int .u8 0, .int .u8 0, .int .u8 0, .int .u8 0, .int .u8 0, .int .u8 0, .int .u8 0, .int .u8 0, .int .u8 0, .int .u8 0, .int .u8 0, .int .u8 0] 104) K0)
  have hs0 : (w.alloc (.cells #[.int .u8 0, .int .u8 0, .int .u8 0, .int .u8 0, .int .u8 0, .int .u8 0, .int .u8 0, .int .u8 0, .int .u8 0, .int .u8 0, .int .u8 0, .int .u8 0, .int .u8 0, .int .u8 0, .int .u8 0, .int .u8 0, .int .u8 0, .int .u8 0, .int .u8 0, .int .u8 0, .int .u8 0, .int .u8 0, .int .u8 0, .int .u8 0, .int .u8 0, .int .u8 0, .int .u8 0, .int .u8 0, .int .u8 0, .int .u8 0, .int .u8 0, .int .u8 0] 104)).heap.size = w.heap.size + 1 := by simp
  have PS := Lib.hid (rsha ys q c _ (bytes_keep hy (Keep.of_below (X := fun _ => False) K0) (fun _ _ _ h => h)) hr hn)
  clear K0 hy hr
  go_enter Tryz.func72, Tryz.ntmps72
  go_upto_region 1 with fail
  generalize w.alloc (.cells #[.int .u8 0, .int .u8 0, .int .u8 0, .int .u8 0, .int .u8 0, .int .u8 0, .int .u8 0, .int .u8 0, .int .u8 0, .int .u8 0, .int .u8 0, .int .u8 0, .int .u8 0, .int .u8 0, .int .u8 0, .int .u8 0, .int .u8 0, .int .u8 0, .int .u8 0, .int .u8 0, .int .u8 0, .int .u8 0, .int .u8 0, .int .u8 0, .int .u8 0, .int .u8 0, .int .u8 0, .int .u8 0, .int .u8 0, .int .u8 0, .int .u8 0, .int .u8 0] 104) = w0 at *
  generalize hgw : w.heap.size = rb at *
  go_wp2_with fail
  refine PS.out.mono ?_
  rintro e w1 ⟨rfl, hb1⟩
  have hst := storeH (shaN ys) w1
  have K1 := (Below.refl w1.heap.size w1).alloc (Nat.le_refl _) (.cells (hcs (shaN ys)) 104)
  have B1 := Blk.new w1 (hcs (shaN ys)) 104
  have KK := hb1.trans (K1.mono hb1.size)
  have hl := hbytes_length (shaN ys)
  have BY := hbytes_in B1
  have PT := rsha (hbytes (shaN ys)) (some ⟨w1.heap.size, 0, none⟩) 32 _ BY (hbytes_range _) (by omega)
  rw [hl] at PT
  have PT := Lib.hid PT
  have KK := Lib.hid KK
  clear K1 B1 hb1 BY hl
  go_upto_region 2 with fail
  generalize w1.alloc (.cells (hcs (shaN ys)) 104) = w2 at *
  clear hst
  go_wp2_with fail
  refine PT.out.mono ?_
  rintro e w3 ⟨rfl, hb3⟩
  have k3 := KK.out.trans (hb3.mono KK.out.size)
  have br := BR.out.1.beyond k3
  have K3 := Lib.hid k3
  clear k3 hb3
  go_wp2_with (refine wpl_store rfl 104 (.tmp 2) (.tmp 7) rfl rfl rfl br (by rw [hcs_size]; rfl) (by rw [hcs_size]; kernel_rfl) (hcs_one _) ?_)
  have bf := br.setAll (hcs (dblN ys)) (by rw [hcs_size]; rfl)
  have b0 := BR.out.2
  have b1 := b0.trans (K3.out.mono (by rw [← hgw]; exact b0.size))
  have b2 := below_setCells (B := rb) (g := rb) (Nat.le_refl _) (hcs (dblN ys)).toList 0 w3 b1
  exact bodyPost_ret (v := hv (dblN ys)) (results_blk Tryz.results72 _ _ rfl bf Tryz.underlying104 (by rw [hcs_size]; kernel_rfl)) rfl ⟨rfl, by rw [hgw]; exact b2⟩
end Go.Proofs.YtbjbjgfjaopibaaGreatDoor
end

section
/- The document's frame. -/
namespace Go.Proofs.YtbjbjgfjaopibaaGreatDoor
open Go Go.RowKit
set_option linter.unusedSimpArgs false
set_option linter.unusedVariables false
set_option maxRecDepth 100000

set_option maxHeartbeats 6400000 in
theorem rframe (xs : List Int) (q : Option Addr) (c : Nat) (w : World) (hy : Lib.BytesIn w q xs.length xs) (hr : Byt xs) (hl : xs.length ≤ 140737488351232 - 100) :
    Calls Tryz.prog 47 #[.slice q xs.length c] w fun e w' => ∃ p c' o, e = .returned (.slice p (frmB xs).length c') ∧ Row w' 5 (.slice p (frmB xs).length c') (frmB xs) o ∧ (∀ g, o = some g → w.heap.size ≤ g) ∧ Below w.heap.size w w' := by
  have PD := Lib.hid (rdouble xs q c w hy hr (by omega))
  have HY := Lib.hid (And.intro hy hr)
  clear hy hr
  obtain ⟨n, hn⟩ : ∃ n, n = xs.length := ⟨_, rfl⟩
  rw [← hn] at PD hl ⊢
  have HN := Lib.hid hn
  clear hn
  have hnu : IntKind.u64.wrap (n : Int) = (n : Int) := IntWalk.u64_in _ (by omega)
  go_enter Tryz.func47, Tryz.ntmps47
  go_wp2_with fail
  refine PD.out.mono ?_
  rintro e w1 ⟨rfl, hb1⟩
  obtain ⟨HC, hHC⟩ : ∃ HC, HC = hcs (dblN xs) := ⟨_, rfl⟩
  rw [show hv (dblN xs) = .agg HC from by rw [hHC]]
  have hsz : HC.size = 32 := by rw [hHC]; exact hcs_size _
  have hone : HC.all (·.oneCell') = true := by rw [hHC]; exact hcs_one _
  have hinf : (Tryz.prog.info? 104).map (·.size) = some HC.size := by rw [hsz]; kernel_rfl
  have bz := Blk.new w1 hzer 104
  have HHC := Lib.hid hHC
  clear hHC
  go_upto_region 2 with (refine wpl_store rfl 104 (.tmp 3) (.tmp 5) rfl rfl rfl bz (by rw [hsz]; rfl) hinf hone ?_)
  have k2 := below_setCells (B := w1.heap.size) (g := w1.heap.size) (Nat.le_refl _) HC.toList 0 (w1.alloc (.cells hzer 104)) ((Below.refl w1.heap.size w1).alloc (Nat.le_refl _) _)
  have b2 := bz.setAll HC (by rw [hsz]; rfl)
  clear bz
  generalize (w1.alloc (.cells hzer 104)).setCells w1.heap.size 0 HC.toList = w2 at *
  have hb2 : Below w.heap.size w w2 := hb1.trans (k2.mono hb1.size)
  obtain ⟨i0, hi, hz0, hz1, hz2⟩ := info_parts u8inf
  have HI := Lib.hid (And.intro hi (And.intro hz0 (And.intro hz1 hz2)))
  have PL := rlow n 4 (by omega) (by decide) w2.drew
  change Calls Tryz.prog 73 #[.int .u64 (n : Int), .int .i64 4] w2.drew _ at PL
  have PL := Lib.hid PL
  have H2 := Lib.hid (And.intro b2 hb2)
  have l8 : ((hbytes (dblN xs)).take 8).length = 8 := by rw [List.length_take, hbytes_length]; rfl
  have HL8 := Lib.hid l8
  clear b2 hb2 k2 hb1 hi hz0 hz1 hz2 l8
  refine wp_region_held_drew (S := fun w' => True) (by kernel_rfl) trivial (fun hS => ?_)
  refine tkH 0 (v := ?_) rfl (by kernel_rfl) ⟨by rfl, ?_⟩ hS ?_
  rotate_left
  · intro w0 hs; clear hs; go_simp; try (with_reducible rfl)
  try simp only [Act.put, List.setIfInBounds_toArray, List.set_cons_zero, List.set_cons_succ]
  refine tkH 1 (v := ?_) rfl (by kernel_rfl) ⟨by rfl, ?_⟩ hS ?_
  rotate_left
  · intro w0 hs; clear hs; go_simp; try (with_reducible rfl)
  try simp only [Act.put, List.setIfInBounds_toArray, List.set_cons_zero, List.set_cons_succ]
  refine tkH 2 (v := ?_) rfl (by kernel_rfl) ⟨by rfl, ?_⟩ hS ?_
  rotate_left
  · intro w0 hs; clear hs; go_simp; try (with_reducible rfl)
  try simp only [Act.put, List.setIfInBounds_toArray, List.set_cons_zero, List.set_cons_succ]
  refine tkH 4 (v := ?_) rfl (by kernel_rfl) ⟨by rfl, ?_⟩ hS ?_
  rotate_left
  · intro w0 hs; clear hs; go_simp; try (with_reducible rfl)
  try simp only [Act.put, List.setIfInBounds_toArray, List.set_cons_zero, List.set_cons_succ]
  refine tkH 6 (v := ?_) rfl (by kernel_rfl) ⟨by rfl, ?_⟩ hS ?_
  rotate_left
  · intro w0 hs; clear hs; go_simp; try (with_reducible rfl)
  try simp only [Act.put, List.setIfInBounds_toArray, List.set_cons_zero, List.set_cons_succ]
  refine wpAnyH_ready (rs := [3]) (by kernel_rfl) (by simp) ?_
  refine AllReadyH.cons (o := ⟨_, _, _, _, _, _⟩) rfl (fun K hK => ?_) AllReadyH.nil
  rw [if_pos (by rfl)]
  go_step
  refine PL.out.mono ?_
  rintro e w3 ⟨p3, c3, o3, rfl, R3, ho3, hb3⟩
  have hb3' : Below w2.heap.size w2 w3 := (Below.refl _ _).drew.trans hb3
  have b3 := H2.out.1.beyond hb3'
  have hbw3 : Below w.heap.size w w3 := H2.out.2.trans (hb3'.mono H2.out.2.size)
  have hy8 : Lib.BytesIn w3 (some ⟨w1.heap.size, 0, none⟩) ((hbytes (dblN xs)).take 8).length ((hbytes (dblN xs)).take 8) := Lib.BytesIn.of_cells fun i hi => by
    rw [HL8.out] at hi
    rw [Addr.add_lit, Nat.zero_add, b3.cell, HHC.out, hcs_get _ _ (by omega)]
    simp [hbytes, List.getD_eq_getElem?_getD, List.getElem?_take, hi, (by omega : i < 32)]
  obtain ⟨v5, w5, o5, run5, R5, ho5, k5⟩ := row_appendL (P := Tryz.prog) 22 22 i0 (.int .u8 0) Tryz.underlying22 HI.out.1 HI.out.2.1 HI.out.2.2.1 HI.out.2.2.2 rfl R3 (p := some ⟨w1.heap.size, 0, none⟩) (c := 32) (ys := (hbytes (dblN xs)).take 8) hy8 (by rw [leB_length, HL8.out]; decide)
  have hst5 := own_step (G := w.heap.size) rfl hbw3 (fun g hg => Nat.le_trans H2.out.2.size (ho3 g hg)) ho5 k5
  have e5 : leB n 4 ++ (hbytes (dblN xs)).take 8 = headB xs := by unfold headB; rw [← HN.out]
  rw [e5] at R5
  rw [HL8.out] at run5
  have hyx : Lib.BytesIn w5 q xs.length xs := bytes_keep HY.out.1 (Keep.of_below (X := fun _ => False) hst5.2) (fun _ _ _ h => h)
  obtain ⟨v7, w7, o7, run7, R7, ho7, k7⟩ := row_appendL (P := Tryz.prog) 22 22 i0 (.int .u8 0) Tryz.underlying22 HI.out.1 HI.out.2.1 HI.out.2.2.1 HI.out.2.2.2 rfl R5 (p := q) (c := c) (ys := xs) hyx (by rw [headB_len, ← HN.out]; omega)
  have hst7 := own_step (G := w.heap.size) rfl hst5.2 hst5.1 ho7 k7
  obtain ⟨q5, d5, rfl, _⟩ := R5.form
  obtain ⟨q7, d7, rfl, _⟩ := R7.form
  rw [headB_len] at run5 run7
  rw [← HN.out] at run7
  obtain ⟨fx, hfx⟩ : ∃ fx, fx = (headB xs ++ xs).length := ⟨_, rfl⟩
  rw [← hfx] at run7
  have HFX := Lib.hid hfx
  clear hfx
  have H7 := Lib.hid (And.intro R7 hst7)
  clear hb3 hb3' b3 hbw3 hy8 hst5 e5 hyx ho7 k7 hst7 R7 ho5 k5 R5 R3 ho3
  simp only []
  refine hK.out _ _ trivial (fun hS' => ?_)
  clear hS hK
  have hS := hS'; clear hS'
  try simp only [Act.put, List.setIfInBounds_toArray, List.set_cons_zero, List.set_cons_succ]
  refine wpAnyH_ready (rs := [5]) (by kernel_rfl) (by simp) ?_
  refine AllReadyH.cons (o := ⟨_, _, _, _, _, _⟩) rfl (fun K hK => ?_) AllReadyH.nil
  rw [if_pos (by rfl)]
  refine wp_appI _ _ 22 rfl rfl rfl run5 ?_
  refine hK.out _ _ trivial (fun hS' => ?_)
  clear hS hK
  have hS := hS'; clear hS'
  try simp only [Act.put, List.setIfInBounds_toArray, List.set_cons_zero, List.set_cons_succ]
  refine wpAnyH_ready (rs := [7]) (by kernel_rfl) (by simp) ?_
  refine AllReadyH.cons (o := ⟨_, _, _, _, _, _⟩) rfl (fun K hK => ?_) AllReadyH.nil
  rw [if_pos (by rfl)]
  refine wp_appI _ _ 22 rfl rfl rfl run7 ?_
  refine hK.out _ _ trivial (fun hS' => ?_)
  clear hS hK
  have hS := hS'; clear hS'
  try simp only [Act.put, List.setIfInBounds_toArray, List.set_cons_zero, List.set_cons_succ]
  refine tkH 8 (v := ?_) rfl (by kernel_rfl) ⟨by rfl, ?_⟩ hS ?_
  rotate_left
  · intro w0 hs; clear hs; go_simp; try (with_reducible rfl)
  try simp only [Act.put, List.setIfInBounds_toArray, List.set_cons_zero, List.set_cons_succ]
  refine wpAnyH_done (by kernel_rfl) ?_ _
  go_wp2
  go_ret
  exact ⟨q7, d7, o7, by rw [show (frmB xs).length = fx from HFX.out.symm]; rfl, H7.out.1, H7.out.2.1, H7.out.2.2⟩
end Go.Proofs.YtbjbjgfjaopibaaGreatDoor
end

section
/- The document's tape (layer 15): its methods, walked. -/
namespace Go.Proofs.YtbjbjgfjaopibaaGreatDoor
open Go Go.RowKit
set_option linter.unusedSimpArgs false

/-- the document's tape in memory -/
def RefAt (w : World) (r : Nat) (xs : List Int) (sy ro fu : Int) (o : Option Nat) : Prop :=
  ∃ v, Blk w r #[v, .int .i64 sy, .int .i64 ro, .int .i64 fu] 50 ∧ Row w 5 v xs o ∧ o ≠ some r
/-- []byte{} -/
theorem row_none (w : World) : Row (w.alloc (.cells #[] 5)) 5 (.slice (some ⟨w.heap.size, 0, none⟩) 0 0) [] (some w.heap.size) :=
  .inr ⟨w.heap.size, 0, #[], rfl, rfl, Blk.new _ _ _, Nat.le_refl _, Nat.le_refl _, Nat.zero_le _, rfl⟩
theorem rburn (r : Nat) (v s ro : Value) (fu : Int) (w : World) (hb : Blk w r #[v, s, ro, .int .i64 fu] 50) (h0 : -1 ≤ fu) (h1 : fu ≤ 9223372036854775807) :
    Calls Tryz.prog 52 #[.pointer (some ⟨r, 0, none⟩)] w fun e w' => e = .returned (.bool (fu != 0)) ∧ Blk w' r #[v, s, ro, .int .i64 (burn fu)] 50 ∧ Keep (fun k => k = r) w w' := by
  have c := hb.cell 3
  have f := hb.free 3
  rw [show (#[v, s, ro, Value.int .i64 fu] : Array Value)[3]? = some (.int .i64 fu) from rfl] at c
  have hB := Lib.hid hb
  clear hb
  by_cases hz : fu = 0
  · subst hz
    go_enter Tryz.func52, Tryz.ntmps52
    go_wp2
    go_ret
    exact ⟨rfl, hB.out, Keep.refl _ _⟩
  · have z1 : (fu == 0) = false := by simpa using hz
    have z2 : (fu != 0) = true := by simpa using hz
    rw [z2]
    by_cases hp : 0 < fu
    · have HB := Lib.hid (show burn fu = fu - 1 from if_pos hp)
      go_enter Tryz.func52, Tryz.ntmps52
      go_wp2
      go_ret
      exact ⟨rfl, by rw [HB.out]; exact hB.out.set 3 _, Keep.set (X := fun k => k = r) (Keep.refl _ _) (.inl rfl) _⟩
    · have HB := Lib.hid (show burn fu = fu from if_neg hp)
      go_enter Tryz.func52, Tryz.ntmps52
      go_wp2
      go_ret
      exact ⟨rfl, by rw [HB.out]; exact hB.out, Keep.refl _ _⟩
theorem rsync (r : Nat) (xs : List Int) (sy ro fu : Int) (o : Option Nat) (w : World) (h : RefAt w r xs sy ro fu o) (hf0 : -1 ≤ fu) (hf1 : fu ≤ 9223372036854775807) :
    Calls Tryz.prog 48 #[.pointer (some ⟨r, 0, none⟩)] w fun e w' => e = .returned (.int .i64 (burnE fu)) ∧ RefAt w' r xs (syncN xs sy fu) ro (burn fu) o ∧ Keep (foot r o) w w' := by
  obtain ⟨v, h1, h2, h3⟩ := h
  have P := Lib.hid (rburn r v (.int .i64 sy) (.int .i64 ro) fu w h1 hf0 hf1)
  have H2 := Lib.hid h2
  have H3 := Lib.hid h3
  clear h1 h2 h3
  by_cases hz : fu = 0
  · subst hz
    have HN := Lib.hid (show syncN xs sy 0 = sy from rfl)
    have HE := Lib.hid (show burnE 0 = 150 from rfl)
    go_enter Tryz.func48, Tryz.ntmps48
    go_wp2_with fail
    refine P.out.mono ?_
    rintro e w1 ⟨rfl, b1, k1⟩
    have HB := Lib.hid b1
    have HK := Lib.hid k1
    clear b1 k1
    go_wp2
    go_ret
    exact ⟨by rw [HE.out]; rfl, ⟨v, by rw [HN.out]; exact HB.out, H2.out.keep HK.out (fun g hg e => H3.out (by rw [hg, e])), H3.out⟩, HK.out.mono fun k e => .inl e⟩
  · have z1 : (fu != 0) = true := by simpa using hz
    have HN := Lib.hid (show syncN xs sy fu = xs.length from if_neg hz)
    have HE := Lib.hid (show burnE fu = 0 from if_neg hz)
    go_enter Tryz.func48, Tryz.ntmps48
    go_wp2_with fail
    refine P.out.mono ?_
    rintro e w1 ⟨rfl, b1, k1⟩
    rw [z1]
    have R1 := Lib.hid (H2.out.keep k1 (fun g hg e => H3.out (by rw [hg, e])))
    obtain ⟨q2, c2, rfl, _⟩ := R1.out.form
    have c1 := b1.cell
    have f1 := b1.free
    have HB := Lib.hid b1
    have HK := Lib.hid k1
    clear b1 k1
    go_wp2
    go_ret
    have K := Keep.set (X := fun k => k = r) (Keep.refl _ w1) (p := ⟨r, 1, none⟩) (.inl rfl) (.int .i64 (xs.length : Int))
    exact ⟨by rw [HE.out]; rfl, ⟨_, by rw [HN.out]; exact HB.out.set 1 _, R1.out.keep K (fun g hg e => H3.out (by rw [hg, e])), H3.out⟩, (HK.out.trans K).mono fun k e => .inl e⟩
theorem rfuse (r : Nat) (xs : List Int) (sy ro fu n : Int) (o : Option Nat) (w : World) (h : RefAt w r xs sy ro fu o) :
    Calls Tryz.prog 17 #[.pointer (some ⟨r, 0, none⟩), .int .i64 n] w fun e w' => e = .returned (.int .i64 (fuseE n)) ∧ RefAt w' r xs sy ro (fuseN n fu) o ∧ Keep (foot r o) w w' := by
  obtain ⟨v, h1, h2, h3⟩ := h
  have H2 := Lib.hid h2
  have H3 := Lib.hid h3
  have H1 := Lib.hid h1
  have c := h1.cell
  have f := h1.free
  clear h1 h2 h3
  by_cases hz : n < 0
  · have HN := Lib.hid (show fuseN n fu = fu from if_pos hz)
    have HE := Lib.hid (show fuseE n = 1 from if_pos hz)
    go_enter Tryz.func17, Tryz.ntmps17
    go_wp2
    go_ret
    exact ⟨by rw [HE.out]; rfl, ⟨v, by rw [HN.out]; exact H1.out, H2.out, H3.out⟩, Keep.refl _ _⟩
  · have HN := Lib.hid (show fuseN n fu = n from if_neg hz)
    have HE := Lib.hid (show fuseE n = 0 from if_neg hz)
    go_enter Tryz.func17, Tryz.ntmps17
    go_wp2
    go_ret
    have K := Keep.set (X := fun k => k = r) (Keep.refl _ w) (p := ⟨r, 3, none⟩) (.inl rfl) (.int .i64 n)
    exact ⟨by rw [HE.out]; rfl, ⟨v, by rw [HN.out]; exact H1.out.set 3 _, H2.out.keep K (fun g hg e => H3.out (by rw [hg, e])), H3.out⟩, K.mono fun k e => .inl e⟩
theorem rroom (r : Nat) (xs : List Int) (sy ro fu n : Int) (o : Option Nat) (w : World) (h : RefAt w r xs sy ro fu o) :
    Calls Tryz.prog 19 #[.pointer (some ⟨r, 0, none⟩), .int .i64 n] w fun e w' => e = .returned (.int .i64 (roomE n)) ∧ RefAt w' r xs sy (roomN n ro) fu o ∧ Keep (foot r o) w w' := by
  obtain ⟨v, h1, h2, h3⟩ := h
  have H2 := Lib.hid h2
  have H3 := Lib.hid h3
  have H1 := Lib.hid h1
  have c := h1.cell
  have f := h1.free
  clear h1 h2 h3
  by_cases hz : n < 0 ∨ 16777216 < n
  · have HN := Lib.hid (show roomN n ro = ro from if_pos hz)
    have HE := Lib.hid (show roomE n = 1 from if_pos hz)
    by_cases hn : n < 0
    · go_enter Tryz.func19, Tryz.ntmps19
      go_wp2
      go_ret
      exact ⟨by rw [HE.out]; rfl, ⟨v, by rw [HN.out]; exact H1.out, H2.out, H3.out⟩, Keep.refl _ _⟩
    · have d1 : decide (n < 0) = false := decide_eq_false hn
      have d2 : decide (16777216 < n) = true := decide_eq_true (by omega)
      go_enter Tryz.func19, Tryz.ntmps19
      go_wp2
      go_ret
      exact ⟨by rw [HE.out]; rfl, ⟨v, by rw [HN.out]; exact H1.out, H2.out, H3.out⟩, Keep.refl _ _⟩
  · have HN := Lib.hid (show roomN n ro = n from if_neg hz)
    have HE := Lib.hid (show roomE n = 0 from if_neg hz)
    have d1 : decide (n < 0) = false := decide_eq_false (by omega)
    have d2 : decide (16777216 < n) = false := decide_eq_false (by omega)
    go_enter Tryz.func19, Tryz.ntmps19
    go_wp2
    go_ret
    have K := Keep.set (X := fun k => k = r) (Keep.refl _ w) (p := ⟨r, 2, none⟩) (.inl rfl) (.int .i64 n)
    exact ⟨by rw [HE.out]; rfl, ⟨v, by rw [HN.out]; exact H1.out.set 2 _, H2.out.keep K (fun g hg e => H3.out (by rw [hg, e])), H3.out⟩, K.mono fun k e => .inl e⟩
end Go.Proofs.YtbjbjgfjaopibaaGreatDoor
end
