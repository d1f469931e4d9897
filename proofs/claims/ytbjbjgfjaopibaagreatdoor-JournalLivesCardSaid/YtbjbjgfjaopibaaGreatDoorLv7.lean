import Derived.Test.YtbjbjgfjaopibaaGreatDoorLv5
import Derived.Test.YtbjbjgfjaopibaaGreatDoorLv6
import Derived.Lib.SlBuf
import Derived.Laws.IdiomCopy
import Derived.Test.YtbjbjgfjaopibaaGreatDoorLv4
import Derived.Test.YtbjbjgfjaopibaaGreatDoorLv1
import Derived.BigFrame
section
/- SHA-256: a Hasher's state says the bytes so far. No program in sight. -/
namespace Go.Proofs.YtbjbjgfjaopibaaGreatDoor
open Go
set_option linter.unusedVariables false

theorem shw_congr {m m' : Nat → B32} (h : ∀ i, i < 16 → m i = m' i) (i : Nat) : shw m i = shw m' i := by
  induction i using Nat.strongRecOn with
  | ind i ih =>
    by_cases h16 : i < 16
    · rw [shw_lo _ _ h16, shw_lo _ _ h16, h i h16]
    · rw [shw_hi m i (by omega), shw_hi m' i (by omega), ih (i - 2) (by omega), ih (i - 7) (by omega), ih (i - 15) (by omega), ih (i - 16) (by omega)]
theorem rnds_congr {m m' : Nat → B32} (h : ∀ i, i < 16 → m i = m' i) (s : Nat → B32) : ∀ k, rnds m s k = rnds m' s k
  | 0 => rfl
  | k + 1 => by
    show rnd (rnds m s k) (kw k) (shw m k) = rnd (rnds m' s k) (kw k) (shw m' k)
    rw [rnds_congr h s k, shw_congr h k]
theorem blockS_congr {s s' m m' : Nat → B32} (hs : ∀ i, i < 8 → s i = s' i) (h : ∀ i, i < 16 → m i = m' i) : ∀ i, i < 8 → blockS s m i = blockS s' m' i := by
  have key : ∀ k i, i < 8 → rnds m s k i = rnds m s' k i := by
    intro k
    induction k with
    | zero => exact hs
    | succ k ih =>
      intro i hi
      show rnd (rnds m s k) (kw k) (shw m k) i = rnd (rnds m s' k) (kw k) (shw m k) i
      unfold rnd T1 T2
      rw [ih 0 (by omega), ih 1 (by omega), ih 2 (by omega), ih 3 (by omega), ih 4 (by omega), ih 5 (by omega), ih 6 (by omega), ih 7 (by omega)]
      by_cases h0 : i = 0
      · rw [if_pos h0, if_pos h0]
      · rw [if_neg h0, if_neg h0]
        by_cases h4 : i = 4
        · rw [if_pos h4, if_pos h4]
        · rw [if_neg h4, if_neg h4, ih (i - 1) (by omega)]
  intro i hi
  unfold blockS
  rw [hs i hi, key 64 i hi, rnds_congr h s' 64]
theorem getD_left {bs zs : List Int} {j : Nat} (h : j < bs.length) : (bs ++ zs).getD j 0 = bs.getD j 0 := by
  rw [List.getD_eq_getElem?_getD, List.getElem?_append_left h, ← List.getD_eq_getElem?_getD]
theorem getD_right {bs zs : List Int} {j : Nat} : (bs ++ zs).getD (bs.length + j) 0 = zs.getD j 0 := by
  rw [List.getD_eq_getElem?_getD, List.getElem?_append_right (by omega), show bs.length + j - bs.length = j from by omega, ← List.getD_eq_getElem?_getD]
theorem blocksS_append (bs zs : List Int) : ∀ n, 64 * n ≤ bs.length → ∀ i, i < 8 → blocksS (bs ++ zs) n i = blocksS bs n i
  | 0, _, _, _ => rfl
  | n + 1, h, i, hi => by
    show blockS (blocksS (bs ++ zs) n) (msgAt (bs ++ zs) (64 * n)) i = blockS (blocksS bs n) (msgAt bs (64 * n)) i
    refine blockS_congr (blocksS_append bs zs n (by omega)) (fun i hi => ?_) i hi
    unfold msgAt
    rw [getD_left (by omega), getD_left (by omega), getD_left (by omega), getD_left (by omega)]
/-- a Hasher's state says the bytes so far -/
def HS (σ : Nat → B32) (P : Nat → Int) (bs : List Int) : Prop :=
  (∀ i, i < 8 → σ i = blocksS bs (bs.length / 64) i) ∧ (∀ j, j < 64 → 0 ≤ P j ∧ P j ≤ 255) ∧ ∀ j, j < bs.length % 64 → P j = bs.getD (bs.length / 64 * 64 + j) 0
theorem HS.nil : HS s0 (fun _ => 0) [] := ⟨fun _ _ => rfl, fun _ _ => ⟨Int.le_refl 0, by show (0 : Int) ≤ 255; decide⟩, fun j hj => by simp at hj⟩
/-- bytes are laid in the part -/
def putP (P : Nat → Int) (a : Nat) (zs : List Int) (j : Nat) : Int := if a ≤ j ∧ j < a + zs.length then zs.getD (j - a) 0 else P j
theorem putP_range {P : Nat → Int} {a : Nat} {zs : List Int} (hP : ∀ j, j < 64 → 0 ≤ P j ∧ P j ≤ 255) (hz : ∀ z ∈ zs, 0 ≤ z ∧ z ≤ 255) : ∀ j, j < 64 → 0 ≤ putP P a zs j ∧ putP P a zs j ≤ 255 := by
  intro j hj
  unfold putP
  split
  · rename_i h
    rw [List.getD_eq_getElem?_getD, List.getElem?_eq_getElem (by omega)]
    exact hz _ (List.getElem_mem _)
  · exact hP j hj
theorem HS.some {σ : Nat → B32} {P : Nat → Int} {bs zs : List Int} (h : HS σ P bs) (hz : ∀ z ∈ zs, 0 ≤ z ∧ z ≤ 255) (hk : bs.length % 64 + zs.length < 64) : HS σ (putP P (bs.length % 64) zs) (bs ++ zs) := by
  have e1 : (bs ++ zs).length / 64 = bs.length / 64 := by rw [List.length_append]; omega
  have e2 : (bs ++ zs).length % 64 = bs.length % 64 + zs.length := by rw [List.length_append]; omega
  refine ⟨fun i hi => ?_, putP_range h.2.1 hz, fun j hj => ?_⟩
  · rw [e1, blocksS_append bs zs _ (by omega) i hi]; exact h.1 i hi
  · rw [e2] at hj
    rw [e1]
    unfold putP
    by_cases h1 : bs.length % 64 ≤ j
    · rw [if_pos ⟨h1, hj⟩, show bs.length / 64 * 64 + j = bs.length + (j - bs.length % 64) from by omega, getD_right]
    · rw [if_neg (by omega), getD_left (by omega)]; exact h.2.2 j (by omega)
theorem HS.full {σ : Nat → B32} {P : Nat → Int} {bs zs : List Int} (h : HS σ P bs) (hz : ∀ z ∈ zs, 0 ≤ z ∧ z ≤ 255) (hk : bs.length % 64 + zs.length = 64) : HS (blockS σ (msgX (putP P (bs.length % 64) zs))) (putP P (bs.length % 64) zs) (bs ++ zs) := by
  have e1 : (bs ++ zs).length / 64 = bs.length / 64 + 1 := by rw [List.length_append]; omega
  have e2 : (bs ++ zs).length % 64 = 0 := by rw [List.length_append]; omega
  refine ⟨fun i hi => ?_, putP_range h.2.1 hz, fun j hj => by omega⟩
  rw [e1]
  show _ = blockS (blocksS (bs ++ zs) (bs.length / 64)) (msgAt (bs ++ zs) (64 * (bs.length / 64))) i
  refine blockS_congr (fun i hi => by rw [blocksS_append bs zs _ (by omega) i hi]; exact h.1 i hi) (fun i hi => ?_) i hi
  have pt : ∀ j, j < 64 → putP P (bs.length % 64) zs j = (bs ++ zs).getD (64 * (bs.length / 64) + j) 0 := by
    intro j hj
    unfold putP
    by_cases h1 : bs.length % 64 ≤ j
    · rw [if_pos ⟨h1, by omega⟩, show 64 * (bs.length / 64) + j = bs.length + (j - bs.length % 64) from by omega, getD_right]
    · rw [if_neg (by omega), getD_left (by omega), h.2.2 j (by omega)]
      congr 1; omega
  unfold msgX msgAt
  rw [pt _ (by omega), pt _ (by omega), pt _ (by omega), pt _ (by omega)]
  try simp only [Nat.add_assoc]
/-- the cells, when bytes are laid in the part -/
theorem hcl_put (σ : Nat → B32) (P : Nat → Int) (n a : Nat) (zs : List Int) (h : a + zs.length ≤ 64) :
    (hcl σ P n).take (9 + a) ++ zs.map (Value.int .u8) ++ (hcl σ P n).drop (9 + a + zs.length) = hcl σ (putP P a zs) n := by
  have l1 : ((hcl σ P n).take (9 + a)).length = 9 + a := by rw [List.length_take, hcl_length]; omega
  apply List.ext_getElem?
  intro i
  by_cases h1 : i < 9 + a
  · rw [List.append_assoc, List.getElem?_append_left (by omega), List.getElem?_take, if_pos h1]
    by_cases h0 : i = 0
    · subst h0; rfl
    · by_cases h2 : i < 9
      · obtain ⟨t, rfl⟩ : ∃ t, i = 1 + t := ⟨i - 1, by omega⟩
        rw [hcl_w _ _ _ _ (by omega), hcl_w _ _ _ _ (by omega)]
      · obtain ⟨t, rfl⟩ : ∃ t, i = 9 + t := ⟨i - 9, by omega⟩
        rw [hcl_p _ _ _ _ (by omega), hcl_p _ _ _ _ (by omega)]
        unfold putP; rw [if_neg (by omega)]
  · by_cases h2 : i < 9 + a + zs.length
    · obtain ⟨t, rfl⟩ : ∃ t, i = 9 + a + t := ⟨i - (9 + a), by omega⟩
      rw [List.append_assoc, List.getElem?_append_right (by omega), l1, List.getElem?_append_left (by rw [List.length_map]; omega), show 9 + a + t - (9 + a) = t from by omega, List.getElem?_map, List.getElem?_eq_getElem (by omega),
        show 9 + a + t = 9 + (a + t) from by omega, hcl_p _ _ _ _ (by omega)]
      unfold putP
      rw [if_pos ⟨by omega, by omega⟩, show a + t - a = t from by omega, List.getD_eq_getElem?_getD, List.getElem?_eq_getElem (by omega)]
      rfl
    · rw [List.getElem?_append_right (by rw [List.length_append, l1, List.length_map]; omega), List.length_append, l1, List.length_map, List.getElem?_drop, show 9 + a + zs.length + (i - (9 + a + zs.length)) = i from by omega]
      by_cases h3 : i < 73
      · obtain ⟨t, rfl⟩ : ∃ t, i = 9 + t := ⟨i - 9, by omega⟩
        rw [hcl_p _ _ _ _ (by omega), hcl_p _ _ _ _ (by omega)]
        unfold putP; rw [if_neg (by omega)]
      · by_cases h4 : i = 73
        · subst h4; rw [hcl_n, hcl_n]
        · rw [List.getElem?_eq_none (by rw [hcl_length]; omega), List.getElem?_eq_none (by rw [hcl_length]; omega)]
theorem hcl_setn (σ : Nat → B32) (P : Nat → Int) (n m : Nat) : (hcl σ P n).toArray.setIfInBounds 73 (.int .u64 (m : Int)) = (hcl σ P m).toArray := by
  rw [List.setIfInBounds_toArray]
  congr 1
end Go.Proofs.YtbjbjgfjaopibaaGreatDoor
end

section
/- SHA-256, the program's: New, Write. -/
namespace Go.Proofs.YtbjbjgfjaopibaaGreatDoor
open Go Go.RowKit
set_option linter.unusedSimpArgs false
set_option linter.unusedVariables false
set_option maxRecDepth 100000

theorem wpl_build' {P : Program} {w : World} {ops : Array Oper} {rest : List Oper} {o : Oper} {a : Act} {Q : Exit → Act → World → Prop} (hgd : o.guard = none) (t : TypeId) (parts : Array (Nat × Operand)) (ho : o.op = .build t parts) {ps : Array (Nat × Value)} {v : Value}
    (hp : (parts.map fun (i, x) => (i, a.eval x)) = ps) (hrun : (Instr.build t ps).run P w = .ok v w) (h : wpList P ops Q rest (a.put o.dst v) w) : wpList P ops Q (o :: rest) a w := by
  refine wpList_plain hgd fun K hK' => ?_
  unfold Oper.wp
  subst hp
  simp only [execOp, ho, hrun, Sem.run_bind, Sem.run_pure, Result.andThen_ok]
  exact hK' _ _ h
theorem buildHs (w : World) : (Instr.build 140 #[(0, .bool true), (1, .agg (u32c s0 8).toArray)]).run Tryz.prog w = .ok (.agg (hcl s0 (fun _ => 0) 0).toArray) w := by kernel_rfl
theorem stInfo : (Tryz.prog.info? 137).map (·.size) = some 8 := by kernel_rfl
theorem psnew (w : World) (G : Glob w) : Calls Tryz.prog 91 #[] w fun e w' => e = .returned (.pointer (some ⟨w.heap.size, 0, none⟩)) ∧ Blk w' w.heap.size (hcl s0 (fun _ => 0) 0).toArray 140 ∧ Below w.heap.size w w' := by
  have hr : w.rangeAt 0 0 (u32c s0 8) := fun j v hv => by
    have hj : j < 8 := by have := (List.getElem?_eq_some_iff.1 hv).1; rwa [u32c_length] at this
    rw [u32c_get _ _ _ hj] at hv
    rw [Nat.zero_add, G.1 j hj, hv]
  have SI := stInfo
  have hB := Lib.hid (And.intro (Blk.new w (hcl s0 (fun _ => 0) 0).toArray 140) ((Below.refl w.heap.size w).alloc (Nat.le_refl _) (.cells (hcl s0 (fun _ => 0) 0).toArray 140)))
  clear G
  go_enter Tryz.func91, Tryz.ntmps91
  go_wp2_with (first | (refine wpl_build' (ps := #[(0, .bool true), (1, .agg (u32c s0 8).toArray)]) rfl 140 #[(0, .const (.bool true)), (1, .tmp 1)] rfl (by simp [Act.put, Act.eval]) (buildHs _) ?_) | (refine wpList_load_mid rfl 137 (.global 0) rfl 0 0 rfl (u32c s0 8) _ hr Tryz.underlying137 rfl SI ?_))
  go_ret
  exact ⟨rfl, hB.out.1, hB.out.2⟩
theorem hcl_range {w : World} {hb n : Nat} {σ : Nat → B32} {P : Nat → Int} {t : TypeId} (h : Blk w hb (hcl σ P n).toArray t) : w.rangeAt hb 9 (u8c P 64) := fun j v hv => by
  have hj : j < 64 := by have := (List.getElem?_eq_some_iff.1 hv).1; rwa [u8c_length] at this
  rw [u8c_get _ _ _ hj] at hv
  rw [h.cell, List.getElem?_toArray, hcl_p _ _ _ _ hj, hv]
set_option maxHeartbeats 6400000 in
theorem pswrite (hb : Nat) (bs ys : List Int) (q : Option Addr) (c : Nat) (w : World) (G : Glob w) (hgl : hb ≠ 0 ∧ hb ≠ 1)
    (hH : ∃ σ P, Blk w hb (hcl σ P bs.length).toArray 140 ∧ HS σ P bs) (hy : Lib.BytesIn w q ys.length ys) (hr : ∀ y ∈ ys, 0 ≤ y ∧ y ≤ 255) (hc : ys.length ≤ c) (hq : 0 < ys.length → ∀ p, q = some p → p.block ≠ hb) (hn : bs.length + ys.length < 4611686018427387904) :
    Calls Tryz.prog 92 #[.pointer (some ⟨hb, 0, none⟩), .slice q ys.length c] w fun e w' => e = .returned (.int .i64 0) ∧ (∃ σ P, Blk w' hb (hcl σ P (bs ++ ys).length).toArray 140 ∧ HS σ P (bs ++ ys)) ∧ Keep (fun k => k = hb) w w' := by
  have HG := Lib.hid G
  have HY := Lib.hid hy
  have HR := Lib.hid hr
  have HH := Lib.hid hH
  have HQ := Lib.hid hq
  have HN := Lib.hid hn
  obtain ⟨σ0, P0, hB0, _⟩ := hH
  have ct : w.cell? ⟨hb, 0, none⟩ = some (.bool true) := hB0.cell 0
  clear G hy hr hq hB0
  go_enter Tryz.func92, Tryz.ntmps92
  go_wp2
  go_loopg [1] ys.length (fun gh v wx => ∃ (t c' : Nat) (q' : Option Addr), t ≤ ys.length ∧ v = .slice q' (ys.length - t) c' ∧ gh = ys.length - t ∧ ys.length - t ≤ c' ∧ Hid ((0 < ys.length - t → ∃ b0 o0, q = some ⟨b0, o0, none⟩ ∧ q' = some ⟨b0, o0 + t, none⟩) ∧ (∃ σ P, Blk wx hb (hcl σ P (bs.length + t)).toArray 140 ∧ HS σ P (bs ++ ys.take t)) ∧ Keep (fun k => k = hb) w wx))
  case atStart =>
    refine ⟨0, c, q, Nat.zero_le _, rfl, rfl, by omega, ?_, ?_, Keep.refl _ _⟩
    · intro h0
      obtain ⟨b0, o0, e, _⟩ := HY.out (by omega)
      exact ⟨b0, o0, e, e⟩
    · obtain ⟨σ, P, h1, h2⟩ := HH.out
      exact ⟨σ, P, h1, by rw [List.take_zero, List.append_nil]; exact h2⟩
  case round =>
    obtain ⟨t, c', q', ht, rfl, hg, hc', HM⟩ := hrel
    have HGK := Lib.hid hg
    clear hg
    by_cases hlt : t < ys.length
    · obtain ⟨b0, o0, hq0, hq1⟩ := HM.out.1 (by omega)
      obtain ⟨σ, P, hB, hS⟩ := HM.out.2.1
      subst hq0 hq1
      obtain ⟨m, hm⟩ : ∃ m, m = ys.length - t := ⟨_, rfl⟩
      have hm0 : 0 < m := by omega
      have cn : wr.cell? ⟨hb, 73, none⟩ = some (.int .u64 ((bs.length + t : Nat) : Int)) := by rw [hB.cell, List.getElem?_toArray]; exact hcl_n _ _ _
      rw [← hm]
      rw [← hm] at hc'
      generalize hN : bs.length + t = N at *
      have HB := Lib.hid hB
      have HSS := Lib.hid hS
      clear hB hS
      go_upto_region 5 with fail
      obtain ⟨a, ha⟩ : ∃ a, a = N % 64 := ⟨_, rfl⟩
      have hai : (N : Int) % 64 = (a : Int) := by omega
      rw [hai]
      obtain ⟨k, hk1, hk2, hk3, hkm, hka⟩ : ∃ k, k = Nat.min m (64 - a) ∧ 0 < k ∧ (k = m ∨ k = 64 - a) ∧ k ≤ m ∧ a + k ≤ 64 := by
        by_cases h : m ≤ 64 - a
        · exact ⟨m, (Nat.min_eq_left h).symm, by omega, .inl rfl, Nat.le_refl _, by omega⟩
        · exact ⟨64 - a, (Nat.min_eq_right (by omega)).symm, by omega, .inr rfl, by omega, by omega⟩
      obtain ⟨zs, hzs⟩ : ∃ zs, zs = (ys.drop t).take k := ⟨_, rfl⟩
      have hzl : zs.length = k := by rw [hzs, List.length_take, List.length_drop]; omega
      have hzr : ∀ z ∈ zs, 0 ≤ z ∧ z ≤ 255 := fun z hz => by rw [hzs] at hz; exact HR.out z (List.mem_of_mem_drop (List.mem_of_mem_take hz))
      have hbn : b0 ≠ hb := HQ.out (by omega) _ rfl
      have HYr := bytes_keep HY.out HM.out.2.2 (fun _ p hp => by cases hp; exact hbn)
      have hsrc : ∀ j v, (zs.map (Value.int .u8))[j]? = some v → wr.cell? ((⟨b0, o0 + t, none⟩ : Addr).add j) = some v := fun j v hv => by
        have hj : j < k := by have := (List.getElem?_eq_some_iff.1 hv).1; rw [List.length_map, hzl] at this; exact this
        obtain ⟨b1, o1, e, hcell⟩ := HYr (by omega)
        cases e
        have := hcell (t + j) (by omega)
        rw [Addr.add_lit, Nat.add_assoc, this]
        rw [List.getElem?_map, hzs, List.getElem?_take, if_pos hj, List.getElem?_drop, List.getElem?_eq_getElem (by omega)] at hv
        rw [← hv, List.getD_eq_getElem?_getD, List.getElem?_eq_getElem (by omega)]; rfl
      have RC := run_copy_cells (P := Tryz.prog) wr 22 22 3 5 hb (9 + a) (64 - a) (64 - a) ⟨b0, o0 + t, none⟩ m c' (zs.map (Value.int .u8)) Tryz.underlying22 (by kernel_rfl) (by rw [List.length_map, hzl]; exact hk1) hsrc
        (fun j hj => by rw [List.length_map, hzl] at hj; rw [HB.out.cell, List.getElem?_toArray, List.getElem?_eq_getElem (by rw [hcl_length]; omega)]; rfl) (fun j _ => HB.out.free _) (fun v hv => by obtain ⟨z, _, rfl⟩ := List.mem_map.1 hv; rfl)
      have B1 := HB.out.setMid (9 + a) (zs.map (Value.int .u8)) (by rw [List.length_map, hzl]; simp [hcl_length]; omega)
      rw [List.length_map] at RC
      rw [hzl] at RC
      have hput := hcl_put σ P N a zs (by omega)
      rw [← hzl] at RC
      have e1 : (((hcl σ P N).toArray.toList.take (9 + a) ++ zs.map (Value.int .u8) ++ (hcl σ P N).toArray.toList.drop (9 + a + (zs.map (Value.int .u8)).length)).toArray) = (hcl σ (putP P a zs) N).toArray := by
        rw [List.length_map, List.toList_toArray, hput]
      rw [hzl] at RC
      rw [e1] at B1
      have K1 := Lib.hid (Keep.setCells (X := fun k => k = hb) (g := hb) (.inl rfl) (zs.map (Value.int .u8)) (9 + a) (Keep.refl _ wr))
      generalize hw1 : wr.setCells hb (9 + a) (zs.map (Value.int .u8)) = w1 at *
      have cn1 : w1.cell? ⟨hb, 73, none⟩ = some (.int .u64 (N : Int)) := by rw [B1.cell, List.getElem?_toArray]; exact hcl_n _ _ _
      have f73 := B1.free 73
      have HB1 := Lib.hid B1
      have HSS1 := Lib.hid hzr
      have hlen : ys.length - t = m := hm.symm
      have a64 : (a : Int) ≤ 64 := by omega
      have kw1 : IntKind.u64.wrap (k : Int) = (k : Int) := by simp [IntKind.wrap, IntKind.bits, IntKind.signed]; omega
      have kw2 : IntKind.u64.wrap ((N : Int) + (k : Int)) = (N : Int) + (k : Int) := by simp [IntKind.wrap, IntKind.bits, IntKind.signed]; omega
      have kw3 : IntKind.i64.wrap ((a : Int) + (k : Int)) = (a : Int) + (k : Int) := by rw [IntKind.wrap_i64]; omega
      have kw4 : IntKind.i64.wrap (k : Int) = (k : Int) := by rw [IntKind.wrap_i64]; omega
      have HA := Lib.hid ha
      have a63 : (a : Int) < 64 := by omega
      have HK3 := Lib.hid hk3
      have HZS := Lib.hid hzs
      clear B1 hsrc e1 hput hzr HYr hai ha hk1 hk3 hzs hm
      have HMM := Lib.hid hlen
      clear hlen
      go_upto_region 6 with fail
      clear RC
      go_upto_region 7 with fail
      have HB2 := HB1.out.set 73 (.int .u64 ((N : Int) + (k : Int)))
      rw [show (N : Int) + (k : Int) = ((N + k : Nat) : Int) from (Int.natCast_add N k).symm, hcl_setn] at HB2
      have HB2 := Lib.hid HB2
      have K2 := Lib.hid ((HM.out.2.2.trans K1.out).trans ((Keep.refl (fun k => k = hb) w1).set (p := ⟨hb, 73, none⟩) (.inl rfl) (.int .u64 ((N + k : Nat) : Int))))
      rw [show (N : Int) + (k : Int) = ((N + k : Nat) : Int) from (Int.natCast_add N k).symm]
      generalize w1.setCell ⟨hb, 73, none⟩ (.int .u64 ((N + k : Nat) : Int)) = w2 at *
      clear cn1 f73 kw1 kw2
      have hkc : k ≤ c' := by omega
      have s1 : (k : Int) ≤ (m : Int) := by omega
      have s2 : (k : Int) ≤ (c' : Int) := by omega
      go_upto_region 8 with fail
      obtain ⟨q2, hq2⟩ : ∃ q2, q2 = if c' = k then some (⟨b0, o0 + t, none⟩ : Addr) else some ⟨b0, o0 + t + k, none⟩ := ⟨_, rfl⟩
      rw [← hq2]
      have HQ2 := Lib.hid (show 0 < m - k → q2 = some ⟨b0, o0 + t + k, none⟩ from fun h => by rw [hq2, if_neg (by omega)])
      clear hq2
      by_cases hfull : a + k = 64
      · skip
        have hfi : (a : Int) + (k : Int) = 64 := by omega
        have P64I : (Tryz.prog.info? 138).map (·.size) = some (u8c (putP P a zs) 64).length := by rw [u8c_length]; kernel_rfl
        have LDP : w2.drew.rangeAt hb 9 (u8c (putP P a zs) 64) := hcl_range HB2.out.drew
        have PB := Lib.hid (pblock hb σ (putP P a zs) (N + k) (putP P a zs) (putP_range HSS.out.2.1 HSS1.out) w2.drew (HG.out.keep' K2.out hgl).drew HB2.out.drew)
        go_upto_region 9 with fail
        refine wp_region_held_drew (S := fun w' => w'.rangeAt hb 9 (u8c (putP P a zs) 64)) (by kernel_rfl) LDP (fun hS => ?_)
        refine tkH 0 (v := ?_) rfl (by kernel_rfl) ⟨by rfl, ?_⟩ hS ?_
        rotate_left
        · intro w0 hs; clear hs; go_simp; try (with_reducible rfl)
        try simp only [Act.put, List.setIfInBounds_toArray, List.set_cons_zero, List.set_cons_succ]
        refine tkH 1 (v := ?_) rfl (by kernel_rfl) ⟨by rfl, ?_⟩ hS ?_
        rotate_left
        · intro w0 hs; clear hs; go_simp; try (with_reducible rfl)
        try simp only [Act.put, List.setIfInBounds_toArray, List.set_cons_zero, List.set_cons_succ]
        refine tkH 2 (v := ?_) rfl (by kernel_rfl) ⟨by rfl, ?_⟩ hS ?_
        rotate_left
        · intro w0 hs; clear hs; go_simp; try (with_reducible rfl)
        try simp only [Act.put, List.setIfInBounds_toArray, List.set_cons_zero, List.set_cons_succ]
        refine tkH 3 (v := ?_) rfl (by kernel_rfl) ⟨by rfl, ?_⟩ hS ?_
        rotate_left
        · intro w0 hs; clear hs; go_simp; try (with_reducible rfl)
        try simp only [Act.put, List.setIfInBounds_toArray, List.set_cons_zero, List.set_cons_succ]
        refine tkH 4 (v := ?_) rfl (by kernel_rfl) ⟨by rfl, ?_⟩ hS ?_
        rotate_left
        · intro w0 hs; clear hs; go_simp; try (with_reducible rfl)
        try simp only [Act.put, List.setIfInBounds_toArray, List.set_cons_zero, List.set_cons_succ]
        refine tkH 5 (v := ?_) rfl (by kernel_rfl) ⟨by rfl, ?_⟩ hS ?_
        rotate_left
        · intro w0 hs; clear hs; go_simp; try (with_reducible rfl)
        try simp only [Act.put, List.setIfInBounds_toArray, List.set_cons_zero, List.set_cons_succ]
        refine wpAnyH_take (i := 6) (oi := ⟨_, _, _, _, _, _⟩) (v := .agg (u8c (putP P a zs) 64).toArray) rfl (by kernel_rfl) (by kernel_rfl) (by kernel_rfl) (fun _ _ _ h => h) (yieldsIf_load_mid (by rfl) 138 (.tmp 53) rfl hb 9 rfl (u8c (putP P a zs) 64) _ (fun _ hs => hs) Tryz.underlying138 rfl P64I) hS ?_
        try simp only [Act.put, List.setIfInBounds_toArray, List.set_cons_zero, List.set_cons_succ]
        refine wpAnyH_ready (rs := [7]) (by kernel_rfl) (by simp) ?_
        refine AllReadyH.cons (o := ⟨_, _, _, _, _, _⟩) rfl (fun K hK => ?_) AllReadyH.nil
        rw [if_pos (by rfl)]
        go_step
        refine PB.out.mono ?_
        rintro e w3 ⟨rfl, hB3, hK3⟩
        simp only []
        refine hK.out _ _ (hcl_range hB3) (fun hS' => ?_)
        clear hS hK
        have hS := hS'; clear hS'
        try simp only [Act.put, List.setIfInBounds_toArray, List.set_cons_zero, List.set_cons_succ]
        refine wpAnyH_done (by kernel_rfl) ?_ _
        have H3 := Lib.hid (And.intro hB3 hK3)
        clear hB3 hK3 LDP hS
        go_wp2
        go_roundg (ys.length - (t + k))
        case measure => rw [HGK.out]; have := HMM.out; omega
        case rel =>
          have hmm := HMM.out
          refine ⟨t + k, c' - k, q2, by omega, by rw [show ys.length - (t + k) = m - k from by omega], rfl, by omega, fun h0 => ⟨b0, o0, rfl, by rw [HQ2.out (by omega), Nat.add_assoc]⟩, ?_, K2.out.trans ((Keep.refl _ w2).drew.trans H3.out.2)⟩
          have htk : bs ++ ys.take (t + k) = (bs ++ ys.take t) ++ zs := by rw [HZS.out, List.append_assoc, List.take_add]
          have hln : (bs ++ ys.take t).length = N := by rw [List.length_append, List.length_take, ← hN]; omega
          have hla : (bs ++ ys.take t).length % 64 = a := by rw [hln, HA.out]
          rw [htk, ← Nat.add_assoc, hN]
          have hf := HSS.out.full HSS1.out (by rw [hla, hzl]; exact hfull)
          rw [hla] at hf
          exact ⟨_, _, H3.out.1, hf⟩
      · skip
        have hfi : ¬ (a : Int) + (k : Int) = 64 := by omega
        have hfb : ((a : Int) + (k : Int) == 64) = false := beq_false_of_ne hfi
        go_wp2
        go_roundg (ys.length - (t + k))
        case measure => rw [HGK.out]; have := HMM.out; omega
        case rel =>
          have hmm := HMM.out
          refine ⟨t + k, c' - k, q2, by omega, by rw [show ys.length - (t + k) = m - k from by omega], rfl, by omega, fun h0 => ⟨b0, o0, rfl, by rw [HQ2.out (by omega), Nat.add_assoc]⟩, ?_, K2.out⟩
          have htk : bs ++ ys.take (t + k) = (bs ++ ys.take t) ++ zs := by rw [HZS.out, List.append_assoc, List.take_add]
          have hln : (bs ++ ys.take t).length = N := by rw [List.length_append, List.length_take, ← hN]; omega
          have hla : (bs ++ ys.take t).length % 64 = a := by rw [hln, HA.out]
          rw [htk, ← Nat.add_assoc, hN]
          have hf := HSS.out.some HSS1.out (by rw [hla, hzl]; omega)
          rw [hla] at hf
          exact ⟨_, _, HB2.out, hf⟩
    · obtain rfl : t = ys.length := by omega
      rw [Nat.sub_self]
      go_wp2
      go_ret
      refine ⟨rfl, ?_, HM.out.2.2⟩
      obtain ⟨σ, P, h1, h2⟩ := HM.out.2.1
      rw [List.take_length] at h2
      exact ⟨σ, P, by rw [List.length_append]; exact h1, h2⟩
end Go.Proofs.YtbjbjgfjaopibaaGreatDoor
end

section
/- A hash is loaded, wherever it stands. -/
namespace Go.Proofs.YtbjbjgfjaopibaaGreatDoor
open Go Go.RowKit
set_option linter.unusedSimpArgs false
set_option linter.unusedVariables false

theorem hashInfo : (Tryz.prog.info? 104).map (·.size) = some 32 := by kernel_rfl
theorem blk_range {w : World} {g n : Nat} {t : TypeId} (h : Blk w g (hcs n) t) : w.rangeAt g 0 (hls n) := fun j v hv => by
  rw [Nat.zero_add, h.cell]; simpa [hcs] using hv
theorem wpl_loadH {ops : Array Oper} {rest : List Oper} {o : Oper} {a : Act} {w : World} {Q : Exit → Act → World → Prop} (hgd : o.guard = none) (x : Operand) (ho : o.op = .load 104 x) (b k : Nat) (hx : a.eval x = .pointer (some ⟨b, k, none⟩)) (n : Nat) (hr : w.rangeAt b k (hls n))
    (h : wpList Tryz.prog ops Q rest (a.put o.dst (hv n)) w) : wpList Tryz.prog ops Q (o :: rest) a w :=
  wpList_load_mid hgd 104 x ho b k hx (hls n) (.array 32 5) hr Tryz.underlying104 rfl hashInfo h
/-- the same, guarded -/
theorem wpl_loadHg {ops : Array Oper} {rest : List Oper} {o : Oper} {a : Act} {w : World} {Q : Exit → Act → World → Prop} (hw : Region.wanted o (yielded ops a.tmps) = true) (x : Operand) (ho : o.op = .load 104 x) (b k : Nat) (hx : a.eval x = .pointer (some ⟨b, k, none⟩)) (n : Nat) (hr : w.rangeAt b k (hls n))
    (h : wpList Tryz.prog ops Q rest (a.put o.dst (hv n)) w) : wpList Tryz.prog ops Q (o :: rest) a w :=
  BigFrame.wpList_want hw (fun K hK => wp_load_mid 104 x ho b k hx (hls n) (.array 32 5) hr Tryz.underlying104 rfl hashInfo (hK _ _ h))
/-- in a region that draws: under an S that keeps the block -/
theorem yld_hash {ops : Array Oper} {S : World → Prop} {op : Oper} {a : Act} (hw : Region.wanted op (yielded ops a.tmps) = true) (x : Operand) (ho : op.op = .load 104 x) (b k : Nat) (hx : a.eval x = .pointer (some ⟨b, k, none⟩)) (n : Nat) (hS : ∀ w, S w → w.rangeAt b k (hls n)) :
    YieldsIf Tryz.prog ops S op (hv n) a :=
  yieldsIf_load_mid hw 104 x ho b k hx (hls n) (.array 32 5) hS Tryz.underlying104 rfl hashInfo
end Go.Proofs.YtbjbjgfjaopibaaGreatDoor
end

section
/- SHA-256, the program's: Sum. -/
namespace Go.Proofs.YtbjbjgfjaopibaaGreatDoor
open Go Go.RowKit
set_option linter.unusedSimpArgs false
set_option linter.unusedVariables false
set_option maxRecDepth 100000

/-- SHA-256, as a number whose lowest byte is the first one -/
def shaN (bs : List Int) : Nat := hnum (fun j => ((hashByte (blocksS (padS bs) ((padS bs).length / 64)) j : Nat) : Int)) 32
/-- the cells of the tail, so many bytes of the length laid -/
def tlF (k n i j : Nat) : Int := if j = 0 then 128 else if k ≤ j ∧ j < k + i then (((n * 8) / 2 ^ (56 - 8 * (j - k)) % 256 : Nat) : Int) else 0
theorem tl_zero (k n : Nat) : u8c (tlF k n 0) 72 = u8c (fun j => if j = 0 then 128 else 0) 72 := by
  unfold u8c
  apply List.map_congr_left
  intro j _
  unfold tlF
  by_cases h : j = 0
  · subst h; rfl
  · simp only [if_neg h, show ¬ (k ≤ j ∧ j < k + 0) from by omega, if_false]
theorem tl_set (k n i : Nat) (hk : 1 ≤ k) (h : k + i < 72) : (u8c (tlF k n i) 72).toArray.setIfInBounds (k + i) (.int .u8 (((n * 8) / 2 ^ (56 - 8 * i) % 256 : Nat) : Int)) = (u8c (tlF k n (i + 1)) 72).toArray := by
  rw [List.setIfInBounds_toArray]
  congr 1
  apply List.ext_getElem?
  intro j
  rw [List.getElem?_set]
  by_cases hj : k + i = j
  · subst hj
    rw [if_pos rfl, if_pos (by rw [u8c_length]; exact h), u8c_get _ _ _ h]
    unfold tlF
    rw [if_neg (by omega), if_pos ⟨by omega, by omega⟩, show k + i - k = i from by omega]
  · rw [if_neg hj]
    by_cases h72 : j < 72
    · rw [u8c_get _ _ _ h72, u8c_get _ _ _ h72]
      unfold tlF
      by_cases h0 : j = 0
      · rw [if_pos h0, if_pos h0]
      · rw [if_neg h0, if_neg h0]
        by_cases h1 : k ≤ j ∧ j < k + i
        · rw [if_pos h1, if_pos ⟨h1.1, by omega⟩]
        · rw [if_neg h1, if_neg (by omega)]
    · rw [List.getElem?_eq_none (by rw [u8c_length]; omega), List.getElem?_eq_none (by rw [u8c_length]; omega)]
/-- the tail's bytes -/
def tailS (n : Nat) : List Int := [128] ++ List.replicate (zpad n) 0 ++ bits8 n
theorem tailS_length (n : Nat) : (tailS n).length = zpad n + 9 := by simp [tailS, bits8]
theorem padS_tail (bs : List Int) : padS bs = bs ++ tailS bs.length := by simp [padS, tailS, List.append_assoc]
theorem tailS_get (n j : Nat) (h : j < zpad n + 9) : (tailS n).getD j 0 = tlF (zpad n + 1) n 8 j := by
  unfold tailS tlF
  by_cases h0 : j = 0
  · subst h0; rfl
  · rw [if_neg h0]
    obtain ⟨t, rfl⟩ : ∃ t, j = t + 1 := ⟨j - 1, by omega⟩
    rw [List.getD_eq_getElem?_getD, List.append_assoc, List.getElem?_append_right (by simp)]
    simp only [List.length_singleton, Nat.add_sub_cancel]
    by_cases h1 : t < zpad n
    · rw [List.getElem?_append_left (by simpa using h1), List.getElem?_replicate, if_pos h1, if_neg (by omega)]; rfl
    · rw [List.getElem?_append_right (by simp; omega), if_pos ⟨by omega, by omega⟩, List.length_replicate]
      unfold bits8
      rw [List.getElem?_map, List.getElem?_range (by omega)]
      simp only [Option.map_some, Option.getD_some]
      congr 4; omega
theorem tailS_range (n : Nat) : ∀ y ∈ tailS n, 0 ≤ y ∧ y ≤ 255 := by
  intro y hy
  unfold tailS bits8 at hy
  simp only [List.mem_append, List.mem_cons, List.not_mem_nil, or_false, List.mem_replicate, List.mem_map, List.mem_range] at hy
  rcases hy with (rfl | ⟨_, rfl⟩) | ⟨i, _, rfl⟩
  · decide
  · decide
  · omega
theorem storeHs (σ : Nat → B32) (P : Nat → Int) (n : Nat) (w : World) : (storeCells ⟨w.heap.size, 0, none⟩ (hcl σ P n)).run Tryz.prog (w.alloc (.cells Tryz.zeroCells140 140)) = .ok () (w.alloc (.cells (hcl σ P n).toArray 140)) := by
  have := store_new (P := Tryz.prog) w 140 Tryz.zeroCells140 (hcl σ P n).toArray (by show _ = (hcl σ P n).length; rw [hcl_length]; rfl) (by
    rw [Array.all_eq_true_iff_forall_mem]
    intro u hu
    simp only [hcl, List.mem_toArray, List.mem_cons, List.mem_append, List.not_mem_nil, or_false] at hu
    rcases hu with rfl | hu | hu | rfl
    · rfl
    · exact u32c_one _ _ u hu
    · exact u8c_one _ _ u hu
    · rfl)
  simpa using this
theorem storeTl (T : Nat → Int) (w : World) : (storeCells ⟨w.heap.size, 0, none⟩ (u8c T 72)).run Tryz.prog (w.alloc (.cells Tryz.zeroCells142 142)) = .ok () (w.alloc (.cells (u8c T 72).toArray 142)) := by
  have := store_new (P := Tryz.prog) w 142 Tryz.zeroCells142 (u8c T 72).toArray (by show _ = (u8c T 72).length; rw [u8c_length]; rfl) (by
    rw [Array.all_eq_true_iff_forall_mem]
    intro u hu
    exact u8c_one _ _ u (by simpa using hu))
  simpa using this
theorem buildTl (w : World) : (Instr.build 142 #[(0, .int .u8 128)]).run Tryz.prog w = .ok (.agg (u8c (fun j => if j = 0 then 128 else 0) 72).toArray) w := by kernel_rfl
theorem storeTl2 (w : World) : (storeCells ⟨w.heap.size, 0, none⟩ (Tryz.zeroCells142.toList.set 0 (.int .u8 128))).run Tryz.prog (w.alloc (.cells Tryz.zeroCells142 142)) = .ok () (w.alloc (.cells (u8c (fun j => if j = 0 then 128 else 0) 72).toArray 142)) := by
  rw [show Tryz.zeroCells142.toList.set 0 (.int .u8 128) = u8c (fun j => if j = 0 then 128 else 0) 72 from by kernel_rfl]
  exact storeTl _ w
theorem hsInfo : (Tryz.prog.info? 140).map (·.size) = some 74 := by kernel_rfl
/-- the hash's bytes, so many words laid -/
def ouF (σ : Nat → B32) (j i : Nat) : Int := if i < 4 * j then ((hashByte σ i : Nat) : Int) else 0
theorem ou_zero (σ : Nat → B32) : (#[.int .u8 0, .int .u8 0, .int .u8 0, .int .u8 0, .int .u8 0, .int .u8 0, .int .u8 0, .int .u8 0, .int .u8 0, .int .u8 0, .int .u8 0, .int .u8 0, .int .u8 0, .int .u8 0, .int .u8 0, .int .u8 0, .int .u8 0, .int .u8 0, .int .u8 0, .int .u8 0, .int .u8 0, .int .u8 0, .int .u8 0, .int .u8 0, .int .u8 0, .int .u8 0, .int .u8 0, .int .u8 0, .int .u8 0, .int .u8 0, .int .u8 0, .int .u8 0] : Array Value) = (u8c (ouF σ 0) 32).toArray := by
  show _ = ((List.range 32).map fun i => Value.int .u8 (if i < 4 * 0 then ((hashByte σ i : Nat) : Int) else 0)).toArray
  rw [List.map_congr_left (g := fun _ => Value.int .u8 0) (fun j _ => by rw [if_neg (by omega)])]
  rfl
theorem ou_put (σ : Nat → B32) (j : Nat) (h : j < 8) :
    (u8c (ouF σ j) 32).take (4 * j) ++ [.int .u8 (hashByte σ (4 * j) : Nat), .int .u8 (hashByte σ (4 * j + 1) : Nat), .int .u8 (hashByte σ (4 * j + 2) : Nat), .int .u8 (hashByte σ (4 * j + 3) : Nat)] ++ (u8c (ouF σ j) 32).drop (4 * j + 4) = u8c (ouF σ (j + 1)) 32 := by
  have l1 : ((u8c (ouF σ j) 32).take (4 * j)).length = 4 * j := by rw [List.length_take, u8c_length]; omega
  apply List.ext_getElem?
  intro i
  by_cases h1 : i < 4 * j
  · rw [List.append_assoc, List.getElem?_append_left (by omega), List.getElem?_take, if_pos h1, u8c_get _ _ _ (by omega), u8c_get _ _ _ (by omega)]
    unfold ouF; rw [if_pos h1, if_pos (by omega)]
  · by_cases h2 : i < 4 * j + 4
    · rw [List.append_assoc, List.getElem?_append_right (by omega), l1, u8c_get _ _ _ (by omega)]
      unfold ouF; rw [if_pos (by omega)]
      rcases (by omega : i = 4 * j ∨ i = 4 * j + 1 ∨ i = 4 * j + 2 ∨ i = 4 * j + 3) with rfl | rfl | rfl | rfl
      · rw [Nat.sub_self]; rfl
      · rw [show 4 * j + 1 - 4 * j = 1 from by omega]; rfl
      · rw [show 4 * j + 2 - 4 * j = 2 from by omega]; rfl
      · rw [show 4 * j + 3 - 4 * j = 3 from by omega]; rfl
    · rw [List.getElem?_append_right (by rw [List.length_append, l1]; simp; omega), List.length_append, l1, List.getElem?_drop]
      simp only [List.length_cons, List.length_nil]
      rw [show 4 * j + 4 + (i - (4 * j + (0 + 1 + 1 + 1 + 1))) = i from by omega]
      by_cases h3 : i < 32
      · rw [u8c_get _ _ _ h3, u8c_get _ _ _ h3]
        unfold ouF; rw [if_neg h1, if_neg (by omega)]
      · rw [List.getElem?_eq_none (by rw [u8c_length]; omega), List.getElem?_eq_none (by rw [u8c_length]; omega)]
theorem hashByte_lt (σ : Nat → B32) (i : Nat) : hashByte σ i < 256 := by unfold hashByte; omega
theorem ou_hash (σ : Nat → B32) : u8c (ouF σ 8) 32 = hls (hnum (fun j => ((hashByte σ j : Nat) : Int)) 32) := by
  rw [← hls_of (fun j => ((hashByte σ j : Nat) : Int)) (fun i _ => by have := hashByte_lt σ i; omega)]
  unfold u8c
  apply List.map_congr_left
  intro i hi
  unfold ouF
  rw [if_pos (by have := List.mem_range.1 hi; omega)]
theorem hnum_congr {f g : Nat → Int} : ∀ n, (∀ i, i < n → f i = g i) → hnum f n = hnum g n
  | 0, _ => rfl
  | n + 1, h => by unfold hnum; rw [hnum_congr n (fun i hi => h i (by omega)), h n (by omega)]
theorem byte_shr (x : B32) (n : Nat) : IntKind.u8.wrap (iv (x >>> n)) = ((x.toNat / 2 ^ n % 256 : Nat) : Int) := by
  rw [IntKind.wrap_u8]; unfold iv
  rw [BitVec.toNat_ushiftRight, Nat.shiftRight_eq_div_pow]
  omega
theorem byte_all (x : B32) : IntKind.u8.wrap (iv x) = ((x.toNat / 2 ^ 0 % 256 : Nat) : Int) := by
  rw [IntKind.wrap_u8]; unfold iv; simp
theorem hashByte_at (σ : Nat → B32) (j t : Nat) (ht : t < 4) : hashByte σ (4 * j + t) = (σ j).toNat / 2 ^ (24 - 8 * t) % 256 := by
  unfold hashByte
  rw [show (4 * j + t) / 4 = j from by omega, show (4 * j + t) % 4 = t from by omega]
set_option maxHeartbeats 6400000 in
theorem pssum (hb : Nat) (bs : List Int) (w : World) (G : Glob w) (hH : ∃ σ P, Blk w hb (hcl σ P bs.length).toArray 140 ∧ HS σ P bs) (hn : bs.length < 1152921504606846976) :
    Calls Tryz.prog 93 #[.pointer (some ⟨hb, 0, none⟩)] w fun e w' => e = .returned (hv (shaN bs)) ∧ Below w.heap.size w w' := by
  obtain ⟨σ, P, hB, hS⟩ := hH
  have HG := Lib.hid G
  have HSS := Lib.hid hS
  have hg0 := cell_lt (G.1 0 (by decide))
  have hg1 := cell_lt (G.2 0 (by decide))
  have hbl := hB.lt
  have K0 := (Below.refl w.heap.size w).alloc (Nat.le_refl _) (.cells #[.int .u8 0, .int .u8 0, .int .u8 0, .int .u8 0, .int .u8 0, .int .u8 0, .int .u8 0, .int .u8 0, .int .u8 0, .int .u8 0, .int .u8 0, .int .u8 0, .int .u8 0, .int .u8 0, .int .u8 0, .int .u8 0, .int .u8 0, .int .u8 0, .int .u8 0, .int .u8 0, .int .u8 0, .int .u8 0, .int .u8 0, .int .u8 0, .int .u8 0, .int .u8 0, .int .u8 0, .int .u8 0, .int .u8 0, .int .u8 0, .int .u8 0, .int .u8 0] 104)
  have BR := Lib.hid (And.intro (Blk.new w #[.int .u8 0, .int .u8 0, .int .u8 0, .int .u8 0, .int .u8 0, .int .u8 0, .int .u8 0, .int .u8 0, .int .u8 0, .int .u8 0, .int .u8 0, .int .u8 0, .int .u8 0, .int .u8 0, .int .u8 0, .int .u8 0, .int .u8 0, .int .u8 0, .int .u8 0, .int .u8 0, .int .u8 0, .int .u8 0, .int .u8 0, .int .u8 0, .int .u8 0, .int .u8 0, .int .u8 0, .int .u8 0, .int .u8 0, .int .u8 0, .int .u8 0, .int .u8 0] 104) K0)
  have HB0 := Lib.hid (hB.beyond K0)
  have HI := hsInfo
  generalize hN : bs.length = N at *
  clear G hS hB K0
  go_enter Tryz.func93, Tryz.ntmps93
  go_upto_region 1 with fail
  generalize w.alloc (.cells #[.int .u8 0, .int .u8 0, .int .u8 0, .int .u8 0, .int .u8 0, .int .u8 0, .int .u8 0, .int .u8 0, .int .u8 0, .int .u8 0, .int .u8 0, .int .u8 0, .int .u8 0, .int .u8 0, .int .u8 0, .int .u8 0, .int .u8 0, .int .u8 0, .int .u8 0, .int .u8 0, .int .u8 0, .int .u8 0, .int .u8 0, .int .u8 0, .int .u8 0, .int .u8 0, .int .u8 0, .int .u8 0, .int .u8 0, .int .u8 0, .int .u8 0, .int .u8 0] 104) = w0 at *
  generalize hgw : w.heap.size = rb at *
  have ct : w0.cell? ⟨hb, 0, none⟩ = some (.bool true) := HB0.out.cell 0
  have hst := storeHs σ P N w0
  have BC := Lib.hid (And.intro (Blk.new w0 (hcl σ P N).toArray 140) ((Below.refl w0.heap.size w0).alloc (Nat.le_refl _) (.cells (hcl σ P N).toArray 140)))
  have lb := HB0.out
  go_upto_region 4 with (refine wpList_load_row rfl 140 (.tmp 21) rfl hb rfl _ (hcl σ P N).toArray (0, 0) _ lb Tryz.underlying140 rfl (by rw [HI, List.size_toArray, hcl_length]) ?_)
  generalize w0.alloc (.cells (hcl σ P N).toArray 140) = w1 at *
  generalize hcb : w0.heap.size = cb at *
  generalize htb : w1.heap.size = tb at *
  have hst2 := storeTl2 w1
  rw [htb] at hst2
  have BT := (And.intro (Blk.new w1 (u8c (fun j => if j = 0 then 128 else 0) 72).toArray 142) ((Below.refl w1.heap.size w1).alloc (Nat.le_refl _) (.cells (u8c (fun j => if j = 0 then 128 else 0) 72).toArray 142)))
  rw [htb] at BT
  have BT := Lib.hid BT
  go_upto_region 5 with fail
  generalize w1.alloc (.cells (u8c (fun j => if j = 0 then 128 else 0) 72).toArray 142) = w2 at *
  rw [← tl_zero (zpad N + 1) N] at BT
  clear hst hst2 lb ct
  have K01 := BR.out.2
  have hbl1 : rb < w0.heap.size := BR.out.1.lt
  have K12 : Below w0.heap.size w0 w2 := by
    have h1 := BC.out.2
    have h2 := BT.out.2
    have hs := h1.size
    rw [hcb] at hs ⊢
    exact h1.trans (h2.mono (by rw [← htb]; exact hs))
  have HB2 := Lib.hid (HB0.out.beyond K12)
  have cn : w2.cell? ⟨hb, 73, none⟩ = some (.int .u64 (N : Int)) := by rw [HB2.out.cell, List.getElem?_toArray]; exact hcl_n _ _ _
  have K12 := Lib.hid K12
  clear K01
  go_upto_region 6 with fail
  have hct : cb < tb := by have := BC.out.1.lt; rw [htb] at this; exact this
  have hrc : rb < cb := by have := hbl1; rw [hcb] at this; exact this
  obtain ⟨K, hK⟩ : ∃ K, K = zpad N + 1 := ⟨_, rfl⟩
  have hKi : (119 - (N : Int)) % 64 + 1 = (K : Int) := by rw [hK]; unfold zpad; omega
  have hK64 : 1 ≤ K ∧ K ≤ 64 := by rw [hK]; unfold zpad; omega
  rw [← hK] at BT
  have HK := Lib.hid hK
  rw [hKi]
  clear hK hKi
  obtain ⟨M, hM⟩ : ∃ M, M = N * 8 := ⟨_, rfl⟩
  have HMM := Lib.hid hM
  have hM63 : M < 9223372036854775808 := by omega
  have e1 : Op.shift .shl .u64 (N : Int) .u64 3 = pure (.int .u64 (M : Int)) := by
    rw [shift_shl .u64 .u64 (N : Int) 3 (by decide) (by decide)]
    have : IntKind.u64.wrap ((N : Int) * 2 ^ (3 : Int).toNat) = (M : Int) := by
      rw [hM, show (3 : Int).toNat = 3 from rfl]; simp [IntKind.wrap, IntKind.bits, IntKind.signed]; omega
    rw [this]
  clear hM
  go_wp2
  go_loopg [33] 8 (fun gh i wx => ∃ k : Nat, k ≤ 8 ∧ i = .int .i64 (k : Int) ∧ gh = 8 - k ∧ Hid (Blk wx tb (u8c (tlF K N k) 72).toArray 142 ∧ Keep (fun g => g = tb) w2 wx))
  case atStart => exact ⟨0, by omega, rfl, rfl, BT.out.1, Keep.refl _ _⟩
  case round =>
    obtain ⟨k, hk, rfl, hg, HR⟩ := hrel
    have HGK := Lib.hid hg
    clear hg
    by_cases hlt : k < 8
    · have hKn : N < 1152921504606846976 := hn
      have cn : wr.cell? ⟨hb, 73, none⟩ = some (.int .u64 (N : Int)) := (HR.out.2.cell (p := ⟨hb, 73, none⟩) HB2.out.lt (by show ¬ hb = tb; omega)).trans cn
      obtain ⟨X, hX⟩ : ∃ X, X = M / 2 ^ (56 - 8 * k) := ⟨_, rfl⟩
      have a1 : IntKind.i64.wrap ((K : Int) + (k : Int)) = (K : Int) + (k : Int) := by rw [IntKind.wrap_i64]; omega
      have a2 : IntKind.i64.wrap (8 * (k : Int)) = 8 * (k : Int) := by rw [IntKind.wrap_i64]; omega
      have a3 : IntKind.i64.wrap (56 - 8 * (k : Int)) = 56 - 8 * (k : Int) := by rw [IntKind.wrap_i64]; omega
      have a4 : 0 ≤ (K : Int) + (k : Int) := by omega
      have a5 : (K : Int) + (k : Int) < 72 := by omega
      have a6 : ((K : Int) + (k : Int)).toNat = K + k := by omega
      have e3 : Op.shift .shr .u64 (M : Int) .i64 (56 - 8 * (k : Int)) = pure (.int .u64 (X : Int)) := by
        rw [shift_shr .u64 .i64 (M : Int) (56 - 8 * (k : Int)) (by omega) (by show 56 - 8 * (k : Int) ≤ 64; omega), show (56 - 8 * (k : Int)).toNat = 56 - 8 * k from by omega, hX]
        simp
      have e4 : IntKind.u8.wrap (X : Int) = ((X % 256 : Nat) : Int) := by rw [IntKind.wrap_u8]; omega
      have HX := Lib.hid hX
      generalize hXX : X % 256 = Y at *
      have fz := HR.out.1.free (K + k)
      have cz : wr.cell? ⟨tb, K + k, none⟩ = some (.int .u8 (tlF K N k (K + k))) := by rw [HR.out.1.cell, List.getElem?_toArray]; exact u8c_get _ _ _ (by omega)
      have HXX := Lib.hid hXX
      clear hX hXX
      go_wp2
      go_roundg (8 - (k + 1))
      case measure => rw [HGK.out]; omega
      case rel =>
        refine ⟨k + 1, hlt, rfl, rfl, ?_, HR.out.2.trans ((Keep.refl (fun g => g = tb) wr).set (p := ⟨tb, K + k, none⟩) (.inl rfl) _)⟩
        have := HR.out.1.set (K + k) (.int .u8 (((N * 8) / 2 ^ (56 - 8 * k) % 256 : Nat) : Int))
        rw [tl_set K N k hK64.1 (by omega), ← HMM.out, ← HX.out, HXX.out] at this
        have hv : ((M : Int) / 2 ^ (56 - 8 * k) % 256 : Int) = ((Y : Nat) : Int) := by rw [← HXX.out, HX.out]; simp
        first | exact this | (rw [hv]; exact this)
    · obtain rfl : k = 8 := by omega
      generalize wr = w3 at *
      have hl : (tailS N).length = K + 8 := by rw [tailS_length, HK.out]
      have HTR := HR.out.1
      have hcbb : w0.heap.size = cb := hcb
      have BC3 : Blk w3 cb (hcl σ P N).toArray 140 := by
        have h2 := BT.out.2
        rw [← htb] at h2
        exact HR.out.2.blk (BC.out.1.beyond h2) (by omega)
      have K3 : Below rb w w3 := by
        have h1 := BR.out.2
        have h2 := K12.out
        have hs := h1.size
        have h3 := h1.trans (h2.mono (by rw [← hgw]; exact hs))
        exact h3.trans (HR.out.2.below (by rw [← hgw]; exact h3.size) (fun g h => by rw [h]; omega))
      have G3 : Glob w3 := HG.out.below (by rw [hgw]; exact K3)
      have BY : Lib.BytesIn w3 (some ⟨tb, 0, none⟩) (tailS N).length (tailS N) := Lib.BytesIn.of_cells fun i hi => by
        rw [Addr.add_lit, Nat.zero_add, HTR.cell, List.getElem?_toArray, u8c_get _ _ _ (by omega), tailS_get N i (by rw [← tailS_length]; exact hi), ← HK.out]
      have PW := pswrite cb bs (tailS N) (some ⟨tb, 0, none⟩) 72 w3 G3 ⟨by show cb ≠ 0; omega, by show cb ≠ 1; omega⟩ ⟨σ, P, by rw [hN]; exact BC3, HSS.out⟩ BY (tailS_range N) (by omega) (fun _ p hp => by cases hp; show tb ≠ cb; omega) (by omega)
      rw [hl, ← hN, ← padS_tail] at PW
      have PW := Lib.hid PW
      have K3 := Lib.hid K3
      have w1' : IntKind.i64.wrap ((K : Int) + 8) = (K : Int) + 8 := by rw [IntKind.wrap_i64]; omega
      have w2' : 0 ≤ (K : Int) + 8 := by omega
      have w3' : (K : Int) + 8 ≤ 72 := by omega
      have w4' : ((K : Int) + 8).toNat = K + 8 := by omega
      clear G3 BY BC3 HTR
      go_wp2_with fail
      refine PW.out.mono ?_
      rintro e w4 ⟨rfl, ⟨σ4, P4, hB4, hS4⟩, hk4⟩
      have H4 := Lib.hid (And.intro hB4 (And.intro hS4 hk4))
      have hr4 : (w4.alloc (.cells #[.int .u8 0, .int .u8 0, .int .u8 0, .int .u8 0, .int .u8 0, .int .u8 0, .int .u8 0, .int .u8 0, .int .u8 0, .int .u8 0, .int .u8 0, .int .u8 0, .int .u8 0, .int .u8 0, .int .u8 0, .int .u8 0, .int .u8 0, .int .u8 0, .int .u8 0, .int .u8 0, .int .u8 0, .int .u8 0, .int .u8 0, .int .u8 0, .int .u8 0, .int .u8 0, .int .u8 0, .int .u8 0, .int .u8 0, .int .u8 0, .int .u8 0, .int .u8 0] 104)).rangeAt cb 1 (u32c σ4 8) := fun j v hv => by
        have hj : j < 8 := by have := (List.getElem?_eq_some_iff.1 hv).1; rwa [u32c_length] at this
        rw [u32c_get _ _ _ hj] at hv
        rw [(hB4.beyond ((Below.refl _ w4).alloc (Nat.le_refl _) (.cells #[.int .u8 0, .int .u8 0, .int .u8 0, .int .u8 0, .int .u8 0, .int .u8 0, .int .u8 0, .int .u8 0, .int .u8 0, .int .u8 0, .int .u8 0, .int .u8 0, .int .u8 0, .int .u8 0, .int .u8 0, .int .u8 0, .int .u8 0, .int .u8 0, .int .u8 0, .int .u8 0, .int .u8 0, .int .u8 0, .int .u8 0, .int .u8 0, .int .u8 0, .int .u8 0, .int .u8 0, .int .u8 0, .int .u8 0, .int .u8 0, .int .u8 0, .int .u8 0] 104))).cell, List.getElem?_toArray, hcl_w _ _ _ _ hj, hv]
      have SI := stInfo
      have BO := Lib.hid (And.intro (Blk.new w4 #[.int .u8 0, .int .u8 0, .int .u8 0, .int .u8 0, .int .u8 0, .int .u8 0, .int .u8 0, .int .u8 0, .int .u8 0, .int .u8 0, .int .u8 0, .int .u8 0, .int .u8 0, .int .u8 0, .int .u8 0, .int .u8 0, .int .u8 0, .int .u8 0, .int .u8 0, .int .u8 0, .int .u8 0, .int .u8 0, .int .u8 0, .int .u8 0, .int .u8 0, .int .u8 0, .int .u8 0, .int .u8 0, .int .u8 0, .int .u8 0, .int .u8 0, .int .u8 0] 104) ((Below.refl w4.heap.size w4).alloc (Nat.le_refl _) (.cells #[.int .u8 0, .int .u8 0, .int .u8 0, .int .u8 0, .int .u8 0, .int .u8 0, .int .u8 0, .int .u8 0, .int .u8 0, .int .u8 0, .int .u8 0, .int .u8 0, .int .u8 0, .int .u8 0, .int .u8 0, .int .u8 0, .int .u8 0, .int .u8 0, .int .u8 0, .int .u8 0, .int .u8 0, .int .u8 0, .int .u8 0, .int .u8 0, .int .u8 0, .int .u8 0, .int .u8 0, .int .u8 0, .int .u8 0, .int .u8 0, .int .u8 0, .int .u8 0] 104)))
      clear hB4 hS4 hk4 PW
      go_upto_region 13 with fail
      generalize w4.alloc (.cells #[.int .u8 0, .int .u8 0, .int .u8 0, .int .u8 0, .int .u8 0, .int .u8 0, .int .u8 0, .int .u8 0, .int .u8 0, .int .u8 0, .int .u8 0, .int .u8 0, .int .u8 0, .int .u8 0, .int .u8 0, .int .u8 0, .int .u8 0, .int .u8 0, .int .u8 0, .int .u8 0, .int .u8 0, .int .u8 0, .int .u8 0, .int .u8 0, .int .u8 0, .int .u8 0, .int .u8 0, .int .u8 0, .int .u8 0, .int .u8 0, .int .u8 0, .int .u8 0] 104) = w5 at *
      generalize hob : w4.heap.size = ob at *
      go_wp2_with (refine wpList_load_mid rfl 137 (.tmp 55) rfl cb 1 rfl (u32c σ4 8) _ hr4 Tryz.underlying137 rfl SI ?_)
      clear hr4
      go_loopg [57] 8 (fun gh i wx => ∃ j : Nat, j ≤ 8 ∧ i = .int .i64 (j : Int) ∧ gh = 8 - j ∧ Hid (Blk wx ob (u8c (ouF σ4 j) 32).toArray 104 ∧ Keep (fun g => g = ob) w5 wx))
      case atStart => exact ⟨0, by omega, rfl, rfl, by rw [← ou_zero]; exact BO.out.1, Keep.refl _ _⟩
      case round =>
        obtain ⟨j, hj, rfl, hg, HJ⟩ := hrel
        have HGJ := Lib.hid hg
        clear hg
        by_cases hlt : j < 8
        · have gi := fun w => run_index_arr (P := Tryz.prog) 137 122 8 j (u32c σ4 8).toArray (.int .u32 (iv (σ4 j))) w Tryz.underlying137 (fun w => by kernel_rfl) (fun w => by kernel_rfl) hlt (by rw [List.getElem?_toArray]; exact u32c_get σ4 8 j hlt)
          have h0 := hashByte_at σ4 j 0 (by decide)
          have h1 := hashByte_at σ4 j 1 (by decide)
          have h2 := hashByte_at σ4 j 2 (by decide)
          have h3 := hashByte_at σ4 j 3 (by decide)
          have y0 := byte_shr (σ4 j) 24
          have y1 := byte_shr (σ4 j) 16
          have y2 := byte_shr (σ4 j) 8
          have y3 := byte_all (σ4 j)
          rw [show 24 - 8 * 0 = 24 from rfl] at h0
          rw [show 24 - 8 * 1 = 16 from rfl] at h1
          rw [show 24 - 8 * 2 = 8 from rfl] at h2
          rw [show 24 - 8 * 3 = 0 from rfl] at h3
          rw [← h0] at y0
          rw [← h1] at y1
          rw [← h2] at y2
          rw [← h3] at y3
          have s24 : Op.shift .shr .u32 (iv (σ4 j)) .u64 24 = pure (.int .u32 (iv (σ4 j >>> 24))) := shr32 _ 24 (by decide)
          have s16 : Op.shift .shr .u32 (iv (σ4 j)) .u64 16 = pure (.int .u32 (iv (σ4 j >>> 16))) := shr32 _ 16 (by decide)
          have s8 : Op.shift .shr .u32 (iv (σ4 j)) .u64 8 = pure (.int .u32 (iv (σ4 j >>> 8))) := shr32 _ 8 (by decide)
          have hput := ou_put σ4 j hlt
          rw [Nat.add_zero] at y0
          generalize hashByte σ4 (4 * j) = z0 at *
          generalize hashByte σ4 (4 * j + 1) = z1 at *
          generalize hashByte σ4 (4 * j + 2) = z2 at *
          generalize hashByte σ4 (4 * j + 3) = z3 at *
          have a1 : IntKind.i64.wrap (4 * (j : Int)) = 4 * (j : Int) := by rw [IntKind.wrap_i64]; omega
          have a2 : 0 ≤ 4 * (j : Int) := by omega
          have a3 : 4 * (j : Int) ≤ 32 := by omega
          have a4 : (4 * (j : Int)).toNat = 4 * j := by omega
          have a5 : ¬ (32 : Nat) = 4 * j := by omega
          have kal := (Below.refl wr.heap.size wr).alloc (Nat.le_refl _) (.cells #[.int .u8 (z0 : Int), .int .u8 (z1 : Int), .int .u8 (z2 : Int), .int .u8 (z3 : Int)] 5)
          have bal := Blk.new wr #[.int .u8 (z0 : Int), .int .u8 (z1 : Int), .int .u8 (z2 : Int), .int .u8 (z3 : Int)] 5
          have bo := HJ.out.1.beyond kal
          have RC := run_copy_cells (P := Tryz.prog) (wr.alloc (.cells #[.int .u8 (z0 : Int), .int .u8 (z1 : Int), .int .u8 (z2 : Int), .int .u8 (z3 : Int)] 5)) 22 22 3 5 ob (4 * j) (32 - 4 * j) (32 - 4 * j) ⟨wr.heap.size, 0, none⟩ 4 4 [.int .u8 (z0 : Int), .int .u8 (z1 : Int), .int .u8 (z2 : Int), .int .u8 (z3 : Int)] Tryz.underlying22 (by kernel_rfl) (by
              show 4 = Nat.min 4 (32 - 4 * j)
              exact (Nat.min_eq_left (by omega)).symm)
            (fun i v hv => by rw [Addr.add_lit, Nat.zero_add, bal.cell]; simpa using hv)
            (fun i hi => by rw [bo.cell, List.getElem?_toArray, u8c_get _ _ _ (by have : i < 4 := hi; omega)]; rfl) (fun i _ => bo.free _) (fun v hv => by simp at hv; rcases hv with rfl | rfl | rfl | rfl <;> rfl)
          have B1 := bo.setMid (4 * j) [.int .u8 (z0 : Int), .int .u8 (z1 : Int), .int .u8 (z2 : Int), .int .u8 (z3 : Int)] (by simp [u8c_length]; omega)
          rw [show (u8c (ouF σ4 j) 32).toArray.toList = u8c (ouF σ4 j) 32 from rfl, show ([.int .u8 (z0 : Int), .int .u8 (z1 : Int), .int .u8 (z2 : Int), .int .u8 (z3 : Int)] : List Value).length = 4 from rfl, hput] at B1
          have K1 : Keep (fun g => g = ob) wr ((wr.alloc (.cells #[.int .u8 (z0 : Int), .int .u8 (z1 : Int), .int .u8 (z2 : Int), .int .u8 (z3 : Int)] 5)).setCells ob (4 * j) [.int .u8 (z0 : Int), .int .u8 (z1 : Int), .int .u8 (z2 : Int), .int .u8 (z3 : Int)]) :=
            Keep.setCells (X := fun g => g = ob) (g := ob) (.inl rfl) _ _ ((Keep.refl _ wr).alloc _)
          have HB1 := Lib.hid (And.intro B1 K1)
          clear B1 K1 bo bal kal hput h0 h1 h2 h3
          go_wp2
          go_roundg (8 - (j + 1))
          case measure => rw [HGJ.out]; omega
          case rel => exact ⟨j + 1, hlt, rfl, rfl, HB1.out.1, HJ.out.2.trans HB1.out.2⟩
        · obtain rfl : j = 8 := by omega
          obtain ⟨H, hH⟩ : ∃ H, H = hnum (fun j => ((hashByte σ4 j : Nat) : Int)) 32 := ⟨_, rfl⟩
          have bo : Blk wr ob (hcs H) 104 := by
            have := HJ.out.1
            rw [ou_hash, ← hH] at this
            exact this
          have HHH := Lib.hid (show H = shaN bs from by
            rw [hH]; unfold shaN
            refine hnum_congr 32 (fun i hi => ?_)
            unfold hashByte
            rw [H4.out.2.1.1 (i / 4) (by omega)])
          clear hH
          have k02 : Keep (fun g => g = tb ∨ g = cb ∨ g = ob) w0 w2 := Keep.of_below K12.out
          have k23 := HR.out.2
          have k34 := H4.out.2.2
          have k45 : Keep (fun g => g = tb ∨ g = cb ∨ g = ob) w4 w5 := Keep.of_below (by rw [hob]; exact BO.out.2)
          have k5r := HJ.out.2
          have kk := (((k02.trans (k23.mono fun g h => .inl h)).trans (k34.mono fun g h => .inr (.inl h))).trans k45).trans (k5r.mono fun g h => .inr (.inr h))
          have h4s := k34.size
          have h3s := k23.size
          have hobr : rb < ob := by
            have := k02.size; rw [hcb] at this
            rw [← hob]; omega
          have br := kk.blk BR.out.1 (by rintro (h | h | h) <;> omega)
          have KK := Lib.hid kk
          clear k02 k23 k34 k45 k5r kk h4s h3s
          go_wp2_with (first | (refine wpl_load rfl 104 (.tmp 7) rfl rfl bo Tryz.underlying104 (by rw [hcs_size]; kernel_rfl) ?_) | (refine wpl_store rfl 104 (.tmp 2) (.tmp 78) rfl rfl rfl br (by rw [hcs_size]; rfl) (by rw [hcs_size]; kernel_rfl) (hcs_one H) ?_))
          have bf := br.setAll (hcs H) (by rw [hcs_size]; rfl)
          have b0 := BR.out.2
          have b1 := b0.trans (KK.out.below (by rw [← hgw]; exact b0.size) (fun g h => by rcases h with h | h | h <;> omega))
          have b2 := below_setCells (B := rb) (g := rb) (Nat.le_refl _) (hcs H).toList 0 wr b1
          exact bodyPost_ret (v := hv H) (results_blk Tryz.results93 _ _ rfl bf Tryz.underlying104 (by rw [hcs_size]; kernel_rfl)) rfl ⟨by rw [HHH.out], by rw [hgw]; exact b2⟩
end Go.Proofs.YtbjbjgfjaopibaaGreatDoor
end
