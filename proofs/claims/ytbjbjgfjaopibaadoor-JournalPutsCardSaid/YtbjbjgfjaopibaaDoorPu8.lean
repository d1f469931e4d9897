import Derived.Test.YtbjbjgfjaopibaaDoorPu6
import Derived.Test.YtbjbjgfjaopibaaDoorPu7
import Derived.Lib.SlBuf
import Derived.Laws.IdiomCopy
import Derived.Test.YtbjbjgfjaopibaaDoorPu5
import Derived.Test.YtbjbjgfjaopibaaDoorPu1
import Derived.BigFrame
section
/- SHA-256: a Hasher's state says the bytes so far. No program in sight. -/
namespace Go.Proofs.YtbjbjgfjaopibaaDoor
open Go
set_option linter.unusedVariables false

theorem shw_congr {m m' : Nat → B32} (h : ∀ i, i < 16 → m i = m' i) (i : Nat) : shw m i = shw m' i := by
  induction i using Nat.strongRecOn with
  | ind i ih =>
    by_cases h16 : i < 16
    · rw [shw_lo _ _ h16, shw_lo _ _ h16, h i h16]
    · rw [shw_hi m i (by omega), shw_hi m' i (by omega), ih (i - 2) (by omega), ih (i - 7) (by omega), ih (i - 15) (by omega), ih (i - 16) (by omega)]
theorem rnds_congr {m m' : Nat → B32} (h : ∀ i, i < 16 → m i = m' i) (s : Nat → B32) : ∀ k, rnds m s k = rnds m' s k
  | 0 => rfl
  | k + 1 => by
    show rnd (rnds m s k) (kw k) (shw m k) = rnd (rnds m' s k) (kw k) (shw m' k)
    rw [rnds_congr h s k, shw_congr h k]
theorem blockS_congr {s s' m m' : Nat → B32} (hs : ∀ i, i < 8 → s i = s' i) (h : ∀ i, i < 16 → m i = m' i) : ∀ i, i < 8 → blockS s m i = blockS s' m' i := by
  have key : ∀ k i, i < 8 → rnds m s k i = rnds m s' k i := by
    intro k
    induction k with
    | zero => exact hs
    | succ k ih =>
      intro i hi
      show rnd (rnds m s k) (kw k) (shw m k) i = rnd (rnds m s' k) (kw k) (shw m k) i
      unfold rnd T1 T2
      rw [ih 0 (by omega), ih 1 (by omega), ih 2 (by omega), ih 3 (by omega), ih 4 (by omega), ih 5 (by omega), ih 6 (by omega), ih 7 (by omega)]
      by_cases h0 : i = 0
      · rw [if_pos h0, if_pos h0]
      · rw [if_neg h0, if_neg h0]
        by_cases h4 : i = 4
        · rw [if_pos h4, if_pos h4]
        · rw [if_neg h4, if_neg h4, ih (i - 1) (by omega)]
  intro i hi
  unfold blockS
  rw [hs i hi, key 64 i hi, rnds_congr h s' 64]
theorem getD_left {bs zs : List Int} {j : Nat} (h : j < bs.length) : (bs ++ zs).getD j 0 = bs.getD j 0 := by
  rw [List.getD_eq_getElem?_getD, List.getElem?_append_left h, ← List.getD_eq_getElem?_getD]
theorem getD_right {bs zs : List Int} {j : Nat} : (bs ++ zs).getD (bs.length + j) 0 = zs.getD j 0 := by
  rw [List.getD_eq_getElem?_getD, List.getElem?_append_right (by omega), show bs.length + j - bs.length = j from by omega, ← List.getD_eq_getElem?_getD]
theorem blocksS_append (bs zs : List Int) : ∀ n, 64 * n ≤ bs.length → ∀ i, i < 8 → blocksS (bs ++ zs) n i = blocksS bs n i
  | 0, _, _, _ => rfl
  | n + 1, h, i, hi => by
    show blockS (blocksS (bs ++ zs) n) (msgAt (bs ++ zs) (64 * n)) i = blockS (blocksS bs n) (msgAt bs (64 * n)) i
    refine blockS_congr (blocksS_append bs zs n (by omega)) (fun i hi => ?_) i hi
    unfold msgAt
    rw [getD_left (by omega), getD_left (by omega), getD_left (by omega), getD_left (by omega)]
/-- a Hasher's state says the bytes so far -/
def HS (σ : Nat → B32) (P : Nat → Int) (bs : List Int) : Prop :=
  (∀ i, i < 8 → σ i = blocksS bs (bs.length / 64) i) ∧ (∀ j, j < 64 → 0 ≤ P j ∧ P j ≤ 255) ∧ ∀ j, j < bs.length % 64 → P j = bs.getD (bs.length / 64 * 64 + j) 0
theorem HS.nil : HS s0 (fun _ => 0) [] := ⟨fun _ _ => rfl, fun _ _ => ⟨Int.le_refl 0, by show (0 : Int) ≤ 255; decide⟩, fun j hj => by simp at hj⟩
/-- bytes are laid in the part -/
def putP (P : Nat → Int) (a : Nat) (zs : List Int) (j : Nat) : Int := if a ≤ j ∧ j < a + zs.length then zs.getD (j - a) 0 else P j
theorem putP_range {P : Nat → Int} {a : Nat} {zs : List Int} (hP : ∀ j, j < 64 → 0 ≤ P j ∧ P j ≤ 255) (hz : ∀ z ∈ zs, 0 ≤ z ∧ z ≤ 255) : ∀ j, j < 64 → 0 ≤ putP P a zs j ∧ putP P a zs j ≤ 255 := by
  intro j hj
  unfold putP
  split
  · rename_i h
    rw [List.getD_eq_getElem?_getD, List.getElem?_eq_getElem (by omega)]
    exact hz _ (List.getElem_mem _)
  · exact hP j hj
theorem HS.some {σ : Nat → B32} {P : Nat → Int} {bs zs : List Int} (h : HS σ P bs) (hz : ∀ z ∈ zs, 0 ≤ z ∧ z ≤ 255) (hk : bs.length % 64 + zs.length < 64) : HS σ (putP P (bs.length % 64) zs) (bs ++ zs) := by
  have e1 : (bs ++ zs).length / 64 = bs.length / 64 := by rw [List.length_append]; omega
  have e2 : (bs ++ zs).length % 64 = bs.length % 64 + zs.length := by rw [List.length_append]; omega
  refine ⟨fun i hi => ?_, putP_range h.2.1 hz, fun j hj => ?_⟩
  · rw [e1, blocksS_append bs zs _ (by omega) i hi]; exact h.1 i hi
  · rw [e2] at hj
    rw [e1]
    unfold putP
    by_cases h1 : bs.length % 64 ≤ j
    · rw [if_pos ⟨h1, hj⟩, show bs.length / 64 * 64 + j = bs.length + (j - bs.length % 64) from by omega, getD_right]
    · rw [if_neg (by omega), getD_left (by omega)]; exact h.2.2 j (by omega)
theorem HS.full {σ : Nat → B32} {P : Nat → Int} {bs zs : List Int} (h : HS σ P bs) (hz : ∀ z ∈ zs, 0 ≤ z ∧ z ≤ 255) (hk : bs.length % 64 + zs.length = 64) : HS (blockS σ (msgX (putP P (bs.length % 64) zs))) (putP P (bs.length % 64) zs) (bs ++ zs) := by
  have e1 : (bs ++ zs).length / 64 = bs.length / 64 + 1 := by rw [List.length_append]; omega
  have e2 : (bs ++ zs).length % 64 = 0 := by rw [List.length_append]; omega
  refine ⟨fun i hi => ?_, putP_range h.2.1 hz, fun j hj => by omega⟩
  rw [e1]
  show _ = blockS (blocksS (bs ++ zs) (bs.length / 64)) (msgAt (bs ++ zs) (64 * (bs.length / 64))) i
  refine blockS_congr (fun i hi => by rw [blocksS_append bs zs _ (by omega) i hi]; exact h.1 i hi) (fun i hi => ?_) i hi
  have pt : ∀ j, j < 64 → putP P (bs.length % 64) zs j = (bs ++ zs).getD (64 * (bs.length / 64) + j) 0 := by
    intro j hj
    unfold putP
    by_cases h1 : bs.length % 64 ≤ j
    · rw [if_pos ⟨h1, by omega⟩, show 64 * (bs.length / 64) + j = bs.length + (j - bs.length % 64) from by omega, getD_right]
    · rw [if_neg (by omega), getD_left (by omega), h.2.2 j (by omega)]
      congr 1; omega
  unfold msgX msgAt
  rw [pt _ (by omega), pt _ (by omega), pt _ (by omega), pt _ (by omega)]
  try simp only [Nat.add_assoc]
/-- the cells, when bytes are laid in the part -/
theorem hcl_put (σ : Nat → B32) (P : Nat → Int) (n a : Nat) (zs : List Int) (h : a + zs.length ≤ 64) :
    (hcl σ P n).take (9 + a) ++ zs.map (Value.int .u8) ++ (hcl σ P n).drop (9 + a + zs.length) = hcl σ (putP P a zs) n := by
  have l1 : ((hcl σ P n).take (9 + a)).length = 9 + a := by rw [List.length_take, hcl_length]; omega
  apply List.ext_getElem?
  intro i
  by_cases h1 : i < 9 + a
  · rw [List.append_assoc, List.getElem?_append_left (by omega), List.getElem?_take, if_pos h1]
    by_cases h0 : i = 0
    · subst h0; rfl
    · by_cases h2 : i < 9
      · obtain ⟨t, rfl⟩ : ∃ t, i = 1 + t := ⟨i - 1, by omega⟩
        rw [hcl_w _ _ _ _ (by omega), hcl_w _ _ _ _ (by omega)]
      · obtain ⟨t, rfl⟩ : ∃ t, i = 9 + t := ⟨i - 9, by omega⟩
        rw [hcl_p _ _ _ _ (by omega), hcl_p _ _ _ _ (by omega)]
        unfold putP; rw [if_neg (by omega)]
  · by_cases h2 : i < 9 + a + zs.length
    · obtain ⟨t, rfl⟩ : ∃ t, i = 9 + a + t := ⟨i - (9 + a), by omega⟩
      rw [List.append_assoc, List.getElem?_append_right (by omega), l1, List.getElem?_append_left (by rw [List.length_map]; omega), show 9 + a + t - (9 + a) = t from by omega, List.getElem?_map, List.getElem?_eq_getElem (by omega),
        show 9 + a + t = 9 + (a + t) from by omega, hcl_p _ _ _ _ (by omega)]
      unfold putP
      rw [if_pos ⟨by omega, by omega⟩, show a + t - a = t from by omega, List.getD_eq_getElem?_getD, List.getElem?_eq_getElem (by omega)]
      rfl
    · rw [List.getElem?_append_right (by rw [List.length_append, l1, List.length_map]; omega), List.length_append, l1, List.length_map, List.getElem?_drop, show 9 + a + zs.length + (i - (9 + a + zs.length)) = i from by omega]
      by_cases h3 : i < 73
      · obtain ⟨t, rfl⟩ : ∃ t, i = 9 + t := ⟨i - 9, by omega⟩
        rw [hcl_p _ _ _ _ (by omega), hcl_p _ _ _ _ (by omega)]
        unfold putP; rw [if_neg (by omega)]
      · by_cases h4 : i = 73
        · subst h4; rw [hcl_n, hcl_n]
        · rw [List.getElem?_eq_none (by rw [hcl_length]; omega), List.getElem?_eq_none (by rw [hcl_length]; omega)]
theorem hcl_setn (σ : Nat → B32) (P : Nat → Int) (n m : Nat) : (hcl σ P n).toArray.setIfInBounds 73 (.int .u64 (m : Int)) = (hcl σ P m).toArray := by
  rw [List.setIfInBounds_toArray]
  congr 1
end Go.Proofs.YtbjbjgfjaopibaaDoor
end

section
/- SHA-256, the program's: New, Write. -/
namespace Go.Proofs.YtbjbjgfjaopibaaDoor
open Go Go.RowKit
set_option linter.unusedSimpArgs false
set_option linter.unusedVariables false
set_option maxRecDepth 100000

theorem wpl_build' {P : Program} {w : World} {ops : Array Oper} {rest : List Oper} {o : Oper} {a : Act} {Q : Exit → Act → World → Prop} (hgd : o.guard = none) (t : TypeId) (parts : Array (Nat × Operand)) (ho : o.op = .build t parts) {ps : Array (Nat × Value)} {v : Value}
    (hp : (parts.map fun (i, x) => (i, a.eval x)) = ps) (hrun : (Instr.build t ps).run P w = .ok v w) (h : wpList P ops Q rest (a.put o.dst v) w) : wpList P ops Q (o :: rest) a w := by
  refine wpList_plain hgd fun K hK' => ?_
  unfold Oper.wp
  subst hp
  simp only [execOp, ho, hrun, Sem.run_bind, Sem.run_pure, Result.andThen_ok]
  exact hK' _ _ h
theorem buildHs (w : World) : (Instr.build 132 #[(0, .bool true), (1, .agg (u32c s0 8).toArray)]).run Tryd.prog w = .ok (.agg (hcl s0 (fun _ => 0) 0).toArray) w := by kernel_rfl
theorem stInfo : (Tryd.prog.info? 129).map (·.size) = some 8 := by kernel_rfl
theorem psnew (w : World) (G : Glob w) : Calls Tryd.prog 77 #[] w fun e w' => e = .returned (.pointer (some ⟨w.heap.size, 0, none⟩)) ∧ Blk w' w.heap.size (hcl s0 (fun _ => 0) 0).toArray 132 ∧ Below w.heap.size w w' := by
  have hr : w.rangeAt 0 0 (u32c s0 8) := fun j v hv => by
    have hj : j < 8 := by have := (List.getElem?_eq_some_iff.1 hv).1; rwa [u32c_length] at this
    rw [u32c_get _ _ _ hj] at hv
    rw [Nat.zero_add, G.1 j hj, hv]
  have SI := stInfo
  have hB := Lib.hid (And.intro (Blk.new w (hcl s0 (fun _ => 0) 0).toArray 132) ((Below.refl w.heap.size w).alloc (Nat.le_refl _) (.cells (hcl s0 (fun _ => 0) 0).toArray 132)))
  clear G
  go_enter Tryd.func77, Tryd.ntmps77
  go_wp2_with (first | (refine wpl_build' (ps := #[(0, .bool true), (1, .agg (u32c s0 8).toArray)]) rfl 132 #[(0, .const (.bool true)), (1, .tmp 1)] rfl (by simp [Act.put, Act.eval]) (buildHs _) ?_) | (refine wpList_load_mid rfl 129 (.global 0) rfl 0 0 rfl (u32c s0 8) _ hr Tryd.underlying129 rfl SI ?_))
  go_ret
  exact ⟨rfl, hB.out.1, hB.out.2⟩
theorem hcl_range {w : World} {hb n : Nat} {σ : Nat → B32} {P : Nat → Int} {t : TypeId} (h : Blk w hb (hcl σ P n).toArray t) : w.rangeAt hb 9 (u8c P 64) := fun j v hv => by
  have hj : j < 64 := by have := (List.getElem?_eq_some_iff.1 hv).1; rwa [u8c_length] at this
  rw [u8c_get _ _ _ hj] at hv
  rw [h.cell, List.getElem?_toArray, hcl_p _ _ _ _ hj, hv]
set_option maxHeartbeats 6400000 in
theorem pswrite (hb : Nat) (bs ys : List Int) (q : Option Addr) (c : Nat) (w : World) (G : Glob w) (hgl : hb ≠ 0 ∧ hb ≠ 1)
    (hH : ∃ σ P, Blk w hb (hcl σ P bs.length).toArray 132 ∧ HS σ P bs) (hy : Lib.BytesIn w q ys.length ys) (hr : ∀ y ∈ ys, 0 ≤ y ∧ y ≤ 255) (hc : ys.length ≤ c) (hq : 0 < ys.length → ∀ p, q = some p → p.block ≠ hb) (hn : bs.length + ys.length < 4611686018427387904) :
    Calls Tryd.prog 78 #[.pointer (some ⟨hb, 0, none⟩), .slice q ys.length c] w fun e w' => e = .returned (.int .i64 0) ∧ (∃ σ P, Blk w' hb (hcl σ P (bs ++ ys).length).toArray 132 ∧ HS σ P (bs ++ ys)) ∧ Keep (fun k => k = hb) w w' := by
  have HG := Lib.hid G
  have HY := Lib.hid hy
  have HR := Lib.hid hr
  have HH := Lib.hid hH
  have HQ := Lib.hid hq
  have HN := Lib.hid hn
  obtain ⟨σ0, P0, hB0, _⟩ := hH
  have ct : w.cell? ⟨hb, 0, none⟩ = some (.bool true) := hB0.cell 0
  clear G hy hr hq hB0
  go_enter Tryd.func78, Tryd.ntmps78
  go_wp2
  go_loopg [1] ys.length (fun gh v wx => ∃ (t c' : Nat) (q' : Option Addr), t ≤ ys.length ∧ v = .slice q' (ys.length - t) c' ∧ gh = ys.length - t ∧ ys.length - t ≤ c' ∧ Hid ((0 < ys.length - t → ∃ b0 o0, q = some ⟨b0, o0, none⟩ ∧ q' = some ⟨b0, o0 + t, none⟩) ∧ (∃ σ P, Blk wx hb (hcl σ P (bs.length + t)).toArray 132 ∧ HS σ P (bs ++ ys.take t)) ∧ Keep (fun k => k = hb) w wx))
  case atStart =>
    refine ⟨0, c, q, Nat.zero_le _, rfl, rfl, by omega, ?_, ?_, Keep.refl _ _⟩
    · intro h0
      obtain ⟨b0, o0, e, _⟩ := HY.out (by omega)
      exact ⟨b0, o0, e, e⟩
    · obtain ⟨σ, P, h1, h2⟩ := HH.out
      exact ⟨σ, P, h1, by rw [List.take_zero, List.append_nil]; exact h2⟩
  case round =>
    obtain ⟨t, c', q', ht, rfl, hg, hc', HM⟩ := hrel
    have HGK := Lib.hid hg
    clear hg
    by_cases hlt : t < ys.length
    · obtain ⟨b0, o0, hq0, hq1⟩ := HM.out.1 (by omega)
      obtain ⟨σ, P, hB, hS⟩ := HM.out.2.1
      subst hq0 hq1
      obtain ⟨m, hm⟩ : ∃ m, m = ys.length - t := ⟨_, rfl⟩
      have hm0 : 0 < m := by omega
      have cn : wr.cell? ⟨hb, 73, none⟩ = some (.int .u64 ((bs.length + t : Nat) : Int)) := by rw [hB.cell, List.getElem?_toArray]; exact hcl_n _ _ _
      rw [← hm]
      rw [← hm] at hc'
      generalize hN : bs.length + t = N at *
      have HB := Lib.hid hB
      have HSS := Lib.hid hS
      clear hB hS
      go_upto_region 5 with fail
      obtain ⟨a, ha⟩ : ∃ a, a = N % 64 := ⟨_, rfl⟩
      have hai : (N : Int) % 64 = (a : Int) := by omega
      rw [hai]
      obtain ⟨k, hk1, hk2, hk3, hkm, hka⟩ : ∃ k, k = Nat.min m (64 - a) ∧ 0 < k ∧ (k = m ∨ k = 64 - a) ∧ k ≤ m ∧ a + k ≤ 64 := by
        by_cases h : m ≤ 64 - a
        · exact ⟨m, (Nat.min_eq_left h).symm, by omega, .inl rfl, Nat.le_refl _, by omega⟩
        · exact ⟨64 - a, (Nat.min_eq_right (by omega)).symm, by omega, .inr rfl, by omega, by omega⟩
      obtain ⟨zs, hzs⟩ : ∃ zs, zs = (ys.drop t).take k := ⟨_, rfl⟩
      have hzl : zs.length = k := by rw [hzs, List.length_take, List.length_drop]; omega
      have hzr : ∀ z ∈ zs, 0 ≤ z ∧ z ≤ 255 := fun z hz => by rw [hzs] at hz; exact HR.out z (List.mem_of_mem_drop (List.mem_of_mem_take hz))
      have hbn : b0 ≠ hb := HQ.out (by omega) _ rfl
      have HYr := bytes_keep HY.out HM.out.2.2 (fun _ p hp => by cases hp; exact hbn)
      have hsrc : ∀ j v, (zs.map (Value.int .u8))[j]? = some v → wr.cell? ((⟨b0, o0 + t, none⟩ : Addr).add j) = some v := fun j v hv => by
        have hj : j < k := by have := (List.getElem?_eq_some_iff.1 hv).1; rw [List.length_map, hzl] at this; exact this
        obtain ⟨b1, o1, e, hcell⟩ := HYr (by omega)
        cases e
        have := hcell (t + j) (by omega)
        rw [Addr.add_lit, Nat.add_assoc, this]
        rw [List.getElem?_map, hzs, List.getElem?_take, if_pos hj, List.getElem?_drop, List.getElem?_eq_getElem (by omega)] at hv
        rw [← hv, List.getD_eq_getElem?_getD, List.getElem?_eq_getElem (by omega)]; rfl
      have RC := run_copy_cells (P := Tryd.prog) wr 32 32 3 5 hb (9 + a) (64 - a) (64 - a) ⟨b0, o0 + t, none⟩ m c' (zs.map (Value.int .u8)) Tryd.underlying32 (by kernel_rfl) (by rw [List.length_map, hzl]; exact hk1) hsrc
        (fun j hj => by rw [List.length_map, hzl] at hj; rw [HB.out.cell, List.getElem?_toArray, List.getElem?_eq_getElem (by rw [hcl_length]; omega)]; rfl) (fun j _ => HB.out.free _) (fun v hv => by obtain ⟨z, _, rfl⟩ := List.mem_map.1 hv; rfl)
      have B1 := HB.out.setMid (9 + a) (zs.map (Value.int .u8)) (by rw [List.length_map, hzl]; simp [hcl_length]; omega)
      rw [List.length_map] at RC
      rw [hzl] at RC
      have hput := hcl_put σ P N a zs (by omega)
      rw [← hzl] at RC
      have e1 : (((hcl σ P N).toArray.toList.take (9 + a) ++ zs.map (Value.int .u8) ++ (hcl σ P N).toArray.toList.drop (9 + a + (zs.map (Value.int .u8)).length)).toArray) = (hcl σ (putP P a zs) N).toArray := by
        rw [List.length_map, List.toList_toArray, hput]
      rw [hzl] at RC
      rw [e1] at B1
      have K1 := Lib.hid (Keep.setCells (X := fun k => k = hb) (g := hb) (.inl rfl) (zs.map (Value.int .u8)) (9 + a) (Keep.refl _ wr))
      generalize hw1 : wr.setCells hb (9 + a) (zs.map (Value.int .u8)) = w1 at *
      have cn1 : w1.cell? ⟨hb, 73, none⟩ = some (.int .u64 (N : Int)) := by rw [B1.cell, List.getElem?_toArray]; exact hcl_n _ _ _
      have f73 := B1.free 73
      have HB1 := Lib.hid B1
      have HSS1 := Lib.hid hzr
      have hlen : ys.length - t = m := hm.symm
      have a64 : (a : Int) ≤ 64 := by omega
      have kw1 : IntKind.u64.wrap (k : Int) = (k : Int) := by simp [IntKind.wrap, IntKind.bits, IntKind.signed]; omega
      have kw2 : IntKind.u64.wrap ((N : Int) + (k : Int)) = (N : Int) + (k : Int) := by simp [IntKind.wrap, IntKind.bits, IntKind.signed]; omega
      have kw3 : IntKind.i64.wrap ((a : Int) + (k : Int)) = (a : Int) + (k : Int) := by rw [IntKind.wrap_i64]; omega
      have kw4 : IntKind.i64.wrap (k : Int) = (k : Int) := by rw [IntKind.wrap_i64]; omega
      have HA := Lib.hid ha
      have a63 : (a : Int) < 64 := by omega
      have HK3 := Lib.hid hk3
      have HZS := Lib.hid hzs
      clear B1 hsrc e1 hput hzr HYr hai ha hk1 hk3 hzs hm
      have HMM := Lib.hid hlen
      clear hlen
      go_upto_region 6 with fail
      clear RC
      go_upto_region 7 with fail
      have HB2 := HB1.out.set 73 (.int .u64 ((N : Int) + (k : Int)))
      rw [show (N : Int) + (k : Int) = ((N + k : Nat) : Int) from (Int.natCast_add N k).symm, hcl_setn] at HB2
      have HB2 := Lib.hid HB2
      have K2 := Lib.hid ((HM.out.2.2.trans K1.out).trans ((Keep.refl (fun k => k = hb) w1).set (p := ⟨hb, 73, none⟩) (.inl rfl) (.int .u64 ((N + k : Nat) : Int))))
      rw [show (N : Int) + (k : Int) = ((N + k : Nat) : Int) from (Int.natCast_add N k).symm]
      generalize w1.setCell ⟨hb, 73, none⟩ (.int .u64 ((N + k : Nat) : Int)) = w2 at *
      clear cn1 f73 kw1 kw2
      have hkc : k ≤ c' := by omega
      have s1 : (k : Int) ≤ (m : Int) := by omega
      have s2 : (k : Int) ≤ (c' : Int) := by omega
      go_upto_region 8 with fail
      obtain ⟨q2, hq2⟩ : ∃ q2, q2 = if c' = k then some (⟨b0, o0 + t, none⟩ : Addr) else some ⟨b0, o0 + t + k, none⟩ := ⟨_, rfl⟩
      rw [← hq2]
      have HQ2 := Lib.hid (show 0 < m - k → q2 = some ⟨b0, o0 + t + k, none⟩ from fun h => by rw [hq2, if_neg (by omega)])
      clear hq2
      by_cases hfull : a + k = 64
      · skip
        have hfi : (a : Int) + (k : Int) = 64 := by omega
        have P64I : (Tryd.prog.info? 130).map (·.size) = some (u8c (putP P a zs) 64).length := by rw [u8c_length]; kernel_rfl
        have LDP : w2.drew.rangeAt hb 9 (u8c (putP P a zs) 64) := hcl_range HB2.out.drew
        have PB := Lib.hid (pblock hb σ (putP P a zs) (N + k) (putP P a zs) (putP_range HSS.out.2.1 HSS1.out) w2.drew (HG.out.keep' K2.out hgl).drew HB2.out.drew)
        go_upto_region 9 with fail
        refine wp_region_held_drew (S := fun w' => w'.rangeAt hb 9 (u8c (putP P a zs) 64)) (by kernel_rfl) LDP (fun hS => ?_)
        refine wpAnyH_take (i := 0) (oi := ⟨_, _, _, _, _, _⟩) (v := ?_) rfl (by kernel_rfl) (by kernel_rfl) (by kernel_rfl) (fun _ _ _ h => h) (Or.inl ⟨by rfl, ?_⟩) hS ?_
        rotate_left
        · intro w0 hs; clear hs; go_simp; try (with_reducible rfl)
        try simp only [Act.put, List.setIfInBounds_toArray, List.set_cons_zero, List.set_cons_succ]
        refine wpAnyH_take (i := 1) (oi := ⟨_, _, _, _, _, _⟩) (v := ?_) rfl (by kernel_rfl) (by kernel_rfl) (by kernel_rfl) (fun _ _ _ h => h) (Or.inl ⟨by rfl, ?_⟩) hS ?_
        rotate_left
        · intro w0 hs; clear hs; go_simp; try (with_reducible rfl)
        try simp only [Act.put, List.setIfInBounds_toArray, List.set_cons_zero, List.set_cons_succ]
        refine wpAnyH_take (i := 2) (oi := ⟨_, _, _, _, _, _⟩) (v := ?_) rfl (by kernel_rfl) (by kernel_rfl) (by kernel_rfl) (fun _ _ _ h => h) (Or.inl ⟨by rfl, ?_⟩) hS ?_
        rotate_left
        · intro w0 hs; clear hs; go_simp; try (with_reducible rfl)
        try simp only [Act.put, List.setIfInBounds_toArray, List.set_cons_zero, List.set_cons_succ]
        refine wpAnyH_take (i := 3) (oi := ⟨_, _, _, _, _, _⟩) (v := ?_) rfl (by kernel_rfl) (by kernel_rfl) (by kernel_rfl) (fun _ _ _ h => h) (Or.inl ⟨by rfl, ?_⟩) hS ?_
        rotate_left
        · intro w0 hs; clear hs; go_simp; try (with_reducible rfl)
        try simp only [Act.put, List.setIfInBounds_toArray, List.set_cons_zero, List.set_cons_succ]
        refine wpAnyH_take (i := 4) (oi := ⟨_, _, _, _, _, _⟩) (v := ?_) rfl (by kernel_rfl) (by kernel_rfl) (by kernel_rfl) (fun _ _ _ h => h) (Or.inl ⟨by rfl, ?_⟩) hS ?_
        rotate_left
        · intro w0 hs; clear hs; go_simp; try (with_reducible rfl)
        try simp only [Act.put, List.setIfInBounds_toArray, List.set_cons_zero, List.set_cons_succ]
        refine wpAnyH_take (i := 5) (oi := ⟨_, _, _, _, _, _⟩) (v := ?_) rfl (by kernel_rfl) (by kernel_rfl) (by kernel_rfl) (fun _ _ _ h => h) (Or.inl ⟨by rfl, ?_⟩) hS ?_
        rotate_left
        · intro w0 hs; clear hs; go_simp; try (with_reducible rfl)
        try simp only [Act.put, List.setIfInBounds_toArray, List.set_cons_zero, List.set_cons_succ]
        refine wpAnyH_take (i := 6) (oi := ⟨_, _, _, _, _, _⟩) (v := .agg (u8c (putP P a zs) 64).toArray) rfl (by kernel_rfl) (by kernel_rfl) (by kernel_rfl) (fun _ _ _ h => h) (yieldsIf_load_mid (by rfl) 130 (.tmp 53) rfl hb 9 rfl (u8c (putP P a zs) 64) _ (fun _ hs => hs) Tryd.underlying130 rfl P64I) hS ?_
        try simp only [Act.put, List.setIfInBounds_toArray, List.set_cons_zero, List.set_cons_succ]
        refine wpAnyH_ready (rs := [7]) (by kernel_rfl) (by simp) ?_
        refine AllReadyH.cons (o := ⟨_, _, _, _, _, _⟩) rfl (fun K hK => ?_) AllReadyH.nil
        rw [if_pos (by rfl)]
        go_step
        refine PB.out.mono ?_
        rintro e w3 ⟨rfl, hB3, hK3⟩
        simp only []
        refine hK.out _ _ (hcl_range hB3) (fun hS' => ?_)
        clear hS hK
        have hS := hS'; clear hS'
        try simp only [Act.put, List.setIfInBounds_toArray, List.set_cons_zero, List.set_cons_succ]
        refine wpAnyH_done (by kernel_rfl) ?_ _
        have H3 := Lib.hid (And.intro hB3 hK3)
        clear hB3 hK3 LDP hS
        go_wp2
        go_roundg (ys.length - (t + k))
        case measure => rw [HGK.out]; have := HMM.out; omega
        case rel =>
          have hmm := HMM.out
          refine ⟨t + k, c' - k, q2, by omega, by rw [show ys.length - (t + k) = m - k from by omega], rfl, by omega, fun h0 => ⟨b0, o0, rfl, by rw [HQ2.out (by omega), Nat.add_assoc]⟩, ?_, K2.out.trans ((Keep.refl _ w2).drew.trans H3.out.2)⟩
          have htk : bs ++ ys.take (t + k) = (bs ++ ys.take t) ++ zs := by rw [HZS.out, List.append_assoc, List.take_add]
          have hln : (bs ++ ys.take t).length = N := by rw [List.length_append, List.length_take, ← hN]; omega
          have hla : (bs ++ ys.take t).length % 64 = a := by rw [hln, HA.out]
          rw [htk, ← Nat.add_assoc, hN]
          have hf := HSS.out.full HSS1.out (by rw [hla, hzl]; exact hfull)
          rw [hla] at hf
          exact ⟨_, _, H3.out.1, hf⟩
      · skip
        have hfi : ¬ (a : Int) + (k : Int) = 64 := by omega
        have hfb : ((a : Int) + (k : Int) == 64) = false := beq_false_of_ne hfi
        go_wp2
        go_roundg (ys.length - (t + k))
        case measure => rw [HGK.out]; have := HMM.out; omega
        case rel =>
          have hmm := HMM.out
          refine ⟨t + k, c' - k, q2, by omega, by rw [show ys.length - (t + k) = m - k from by omega], rfl, by omega, fun h0 => ⟨b0, o0, rfl, by rw [HQ2.out (by omega), Nat.add_assoc]⟩, ?_, K2.out⟩
          have htk : bs ++ ys.take (t + k) = (bs ++ ys.take t) ++ zs := by rw [HZS.out, List.append_assoc, List.take_add]
          have hln : (bs ++ ys.take t).length = N := by rw [List.length_append, List.length_take, ← hN]; omega
          have hla : (bs ++ ys.take t).length % 64 = a := by rw [hln, HA.out]
          rw [htk, ← Nat.add_assoc, hN]
          have hf := HSS.out.some HSS1.out (by rw [hla, hzl]; omega)
          rw [hla] at hf
          exact ⟨_, _, HB2.out, hf⟩
    · obtain rfl : t = ys.length := by omega
      rw [Nat.sub_self]
      go_wp2
      go_ret
      refine ⟨rfl, ?_, HM.out.2.2⟩
      obtain ⟨σ, P, h1, h2⟩ := HM.out.2.1
      rw [List.take_length] at h2
      exact ⟨σ, P, by rw [List.length_append]; exact h1, h2⟩
end Go.Proofs.YtbjbjgfjaopibaaDoor
end

section
/- A hash is loaded, wherever it stands. -/
namespace Go.Proofs.YtbjbjgfjaopibaaDoor
open Go Go.RowKit
set_option linter.unusedSimpArgs false
set_option linter.unusedVariables false

theorem hashInfo : (Tryd.prog.info? 94).map (·.size) = some 32 := by kernel_rfl
theorem blk_range {w : World} {g n : Nat} {t : TypeId} (h : Blk w g (hcs n) t) : w.rangeAt g 0 (hls n) := fun j v hv => by
  rw [Nat.zero_add, h.cell]; simpa [hcs] using hv
theorem wpl_loadH {ops : Array Oper} {rest : List Oper} {o : Oper} {a : Act} {w : World} {Q : Exit → Act → World → Prop} (hgd : o.guard = none) (x : Operand) (ho : o.op = .load 94 x) (b k : Nat) (hx : a.eval x = .pointer (some ⟨b, k, none⟩)) (n : Nat) (hr : w.rangeAt b k (hls n))
    (h : wpList Tryd.prog ops Q rest (a.put o.dst (hv n)) w) : wpList Tryd.prog ops Q (o :: rest) a w :=
  wpList_load_mid hgd 94 x ho b k hx (hls n) (.array 32 5) hr Tryd.underlying94 rfl hashInfo h
/-- the same, guarded -/
theorem wpl_loadHg {ops : Array Oper} {rest : List Oper} {o : Oper} {a : Act} {w : World} {Q : Exit → Act → World → Prop} (hw : Region.wanted o (yielded ops a.tmps) = true) (x : Operand) (ho : o.op = .load 94 x) (b k : Nat) (hx : a.eval x = .pointer (some ⟨b, k, none⟩)) (n : Nat) (hr : w.rangeAt b k (hls n))
    (h : wpList Tryd.prog ops Q rest (a.put o.dst (hv n)) w) : wpList Tryd.prog ops Q (o :: rest) a w :=
  BigFrame.wpList_want hw (fun K hK => wp_load_mid 94 x ho b k hx (hls n) (.array 32 5) hr Tryd.underlying94 rfl hashInfo (hK _ _ h))
/-- in a region that draws: under an S that keeps the block -/
theorem yld_hash {ops : Array Oper} {S : World → Prop} {op : Oper} {a : Act} (hw : Region.wanted op (yielded ops a.tmps) = true) (x : Operand) (ho : op.op = .load 94 x) (b k : Nat) (hx : a.eval x = .pointer (some ⟨b, k, none⟩)) (n : Nat) (hS : ∀ w, S w → w.rangeAt b k (hls n)) :
    YieldsIf Tryd.prog ops S op (hv n) a :=
  yieldsIf_load_mid hw 94 x ho b k hx (hls n) (.array 32 5) hS Tryd.underlying94 rfl hashInfo
end Go.Proofs.YtbjbjgfjaopibaaDoor
end
