/- A block's items: filter.Items and the document's. -/
import Derived.Test.YtppcccocnmhbgaaBlk
import Derived.Test.YtppcccocnmhbgaaConcatR
import Derived.Test.YtppcccocnmhbgaaUnlike
namespace Go.Proofs.Ytppcccocnmhbgaa
open Go Go.RowKit
set_option linter.unusedSimpArgs false
set_option linter.unusedVariables false
set_option maxRecDepth 100000

/-- is a script of interest? -/
def keepB (z : List Int) : Bool := decide (0 < z.length) && (z.getD 0 0 != 106)
def outsN (s : SlD OutD) : Nat → List RwD
  | 0 => []
  | j + 1 => outsN s j ++ (if keepB (s.x j).script.z then [(s.x j).script] else [])
def txsN (s : SlD TxD) : Nat → List RwD
  | 0 => []
  | i + 1 => txsN s i ++ outsN (s.x i).outs (s.x i).outs.n
def rowsN (A : Nat → Option Addr) (C : Nat → Nat) (Z : Nat → List Int) (n : Nat) : List RwD := (List.range n).map fun i => ⟨A i, C i, Z i⟩
def rwNil : RwD := ⟨none, 0, []⟩
/-- all rows, and their items -/
def allRows (B : BlkD) (A : Nat → Option Addr) (C : Nat → Nat) (Z : Nat → List Int) (n : Nat) : List RwD := txsN B.txs B.txs.n ++ rowsN A C Z n
def itemsL (l : List RwD) : List (List Int) := unlikeN (fun i => (l.getD i rwNil).z) l.length
theorem outsN_len (s : SlD OutD) : ∀ j, (outsN s j).length ≤ j
  | 0 => Nat.le_refl _
  | j + 1 => by
    have := outsN_len s j
    show (outsN s j ++ _).length ≤ _
    rw [List.length_append]
    split <;> simp <;> omega
theorem txsN_len {w : World} {M : Nat} {s : SlD TxD} (h : SlOk M 4 txCs (TxOk M) w s) : ∀ i, i ≤ s.n → (txsN s i).length ≤ i * M
  | 0, _ => Nat.zero_le _
  | i + 1, hi => by
    have h1 := txsN_len h i (by omega)
    have h2 := outsN_len (s.x i).outs (s.x i).outs.n
    have h3 := (h.2.2.2.row (i := i) (by omega)).2.2.1
    have h4 : (s.x i).outs.n ≤ M := h3.2.1.1
    show (txsN s i ++ outsN (s.x i).outs (s.x i).outs.n).length ≤ (i + 1) * M
    rw [List.length_append, Nat.add_mul, Nat.one_mul]
    omega
/-- the rows are rows -/
def AllOk (w : World) (l : List RwD) : Prop := ∀ r ∈ l, RowOf w r.cell r.a r.c r.z
theorem AllOk.below {w w' : World} {l : List RwD} (h : AllOk w l) (hb : Below w.heap.size w w') : AllOk w' l := fun r hr => (h r hr).below hb
theorem outsN_ok {w : World} {M : Nat} {s : SlD OutD} (h : SlOk M 2 outCs (OutOk M) w s) : ∀ j, j ≤ s.n → AllOk w (outsN s j)
  | 0, _ => fun r hr => by cases hr
  | j + 1, hj => fun r hr => by
    have hr' : r ∈ outsN s j ++ (if keepB (s.x j).script.z then [(s.x j).script] else []) := hr
    rw [List.mem_append] at hr'
    rcases hr' with h1 | h1
    · exact outsN_ok h j (by omega) r h1
    · split at h1
      · have : r = (s.x j).script := by simpa using h1
        rw [this]
        exact (h.2.2.2.row (i := j) (by omega)).1.1
      · cases h1
theorem txsN_ok {w : World} {M : Nat} {s : SlD TxD} (h : SlOk M 4 txCs (TxOk M) w s) : ∀ i, i ≤ s.n → AllOk w (txsN s i)
  | 0, _ => fun r hr => by cases hr
  | i + 1, hi => fun r hr => by
    have hr' : r ∈ txsN s i ++ outsN (s.x i).outs (s.x i).outs.n := hr
    rw [List.mem_append] at hr'
    rcases hr' with h1 | h1
    · exact txsN_ok h i (by omega) r h1
    · exact outsN_ok (h.2.2.2.row (i := i) (by omega)).2.2.1 _ (Nat.le_refl _) r h1
theorem rowsN_ok {w : World} {a0 : Option Addr} {n : Nat} {A : Nat → Option Addr} {C : Nat → Nat} {Z : Nat → List Int} (h : RowsIn w a0 n A C Z) : AllOk w (rowsN A C Z n) := fun r hr => by
  obtain ⟨i, hi, rfl⟩ := List.mem_map.1 hr
  exact h.row (List.mem_range.1 hi)
theorem rowsN_len (A : Nat → Option Addr) (C : Nat → Nat) (Z : Nat → List Int) (n : Nat) : (rowsN A C Z n).length = n := by simp [rowsN]
def cellsL (l : List RwD) : List Value := l.map RwD.cell
theorem cellsL_len (l : List RwD) : (cellsL l).length = l.length := by simp [cellsL]
theorem cellsL_one (l : List RwD) : ∀ u ∈ cellsL l, u.oneCell' = true := fun u hu => by
  obtain ⟨r, _, rfl⟩ := List.mem_map.1 hu
  rfl
/-- a list of rows that alias others' memory -/
theorem rows_of {w : World} {v : Value} {l : List RwD} {o : Option Nat} (h : RowV w 26 1 v l.length (cellsL l) o) (hl : AllOk w l) :
    ∃ q c, v = .slice q l.length c ∧ l.length ≤ c ∧ c ≤ 9223372036854775807 ∧ RowsIn w q l.length (fun i => (l.getD i rwNil).a) (fun i => (l.getD i rwNil).c) (fun i => (l.getD i rwNil).z) := by
  obtain ⟨q, c, rfl, hle, hcm, _⟩ := h.form
  refine ⟨q, c, rfl, hle, by unfold maxLen at hcm; omega, fun i hi => ?_⟩
  obtain ⟨g, cap, _, e, _, _, _, hc, _⟩ := h.mem (by omega)
  injection e with e1
  have hgi : l.getD i rwNil = l[i] := by rw [List.getD_eq_getElem?_getD, List.getElem?_eq_getElem hi]; rfl
  refine ⟨g, 0, e1, ?_, ?_⟩
  · show w.cell? ⟨g, 0 + i, none⟩ = some (l.getD i rwNil).cell
    rw [Nat.zero_add, hc i (by omega), hgi]
    simp [cellsL, hi]
  · show RowOf w (l.getD i rwNil).cell (l.getD i rwNil).a (l.getD i rwNil).c (l.getD i rwNil).z
    rw [hgi]; exact hl _ (List.getElem_mem hi)
theorem snoc_cells (l : List RwD) (r : RwD) : cellsL l ++ [r.cell] = cellsL (l ++ [r]) := by simp [cellsL]
theorem blk_txs (B : BlkD) : (blkCs B).toArray[68]? = some B.txs.cell := by
  have : (hdrCs B.hdr).length = 68 := by simp [hdrCs, hls_length]
  rw [List.getElem?_toArray]
  unfold blkCs
  rw [List.getElem?_append_right (by omega), this]; rfl
theorem blk_size (B : BlkD) : (blkCs B).toArray.size = 69 := by
  have : (hdrCs B.hdr).length = 68 := by simp [hdrCs, hls_length]
  simp [blkCs, this]
theorem ListOf.mono {w : World} {G G' : Nat} {v : Value} {Zs : List (List Int)} (h : ListOf w G v Zs) (hG : G' ≤ G) : ListOf w G' v Zs := by
  obtain ⟨cs, o, h1, h2, h3, h4⟩ := h
  exact ⟨cs, o, h1, fun g hg => Nat.le_trans hG (h2 g hg), h3, fun i hi => by
    obtain ⟨A, C, e1, e2, e3⟩ := h4 i hi
    exact ⟨A, C, e1, e2, fun q hq => ⟨Nat.le_trans hG (e3 q hq).1, (e3 q hq).2⟩⟩⟩
theorem AllOk.append {w : World} {a b : List RwD} (h1 : AllOk w a) (h2 : AllOk w b) : AllOk w (a ++ b) := fun r hr => by
  rcases List.mem_append.1 hr with h | h
  · exact h1 r h
  · exact h2 r h
set_option maxHeartbeats 6400000 in
theorem pitems (B : BlkD) (a0 : Option Addr) (len cap : Nat) (A : Nat → Option Addr) (C : Nat → Nat) (Z : Nat → List Int) (w : World) (hB : BlkOk 1048576 w B) (hR : RowsIn w a0 len A C Z) (hl : len ≤ 1048576) :
    Calls Try.prog 20 #[.agg (blkCs B).toArray, .slice a0 len cap] w fun e w' => (∃ v, e = .returned v ∧ ListOf w' w.heap.size v (itemsL (allRows B A C Z len))) ∧ Below w.heap.size w w' := by
  obtain ⟨i0, hi, hz0, hz1, hz2⟩ := info_parts rowinfo
  have HI := Lib.hid (And.intro hi (And.intro hz0 (And.intro hz1 hz2)))
  clear hi hz0 hz1 hz2
  have bn := Blk.new w (blkCs B).toArray 41
  have K0 := Lib.hid ((Below.refl w.heap.size w).alloc (Nat.le_refl _) (.cells (blkCs B).toArray 41))
  have HT := Lib.hid (And.intro (hB.2.below K0.out (fun x hx => TxOk.below K0.out hx)) (hR.below K0.out))
  have cT : (w.alloc (.cells (blkCs B).toArray 41)).cell? ⟨w.heap.size, 68, none⟩ = some (.slice B.txs.a B.txs.n B.txs.c) := by rw [bn.cell]; exact blk_txs B
  have hsz := blk_size B
  have hn : B.txs.n ≤ 1048576 := hB.2.2.1.1
  generalize hcs0 : (blkCs B).toArray = cs0 at *
  clear hB hR bn hcs0
  go_enter Try.func20, Try.ntmps20
  go_upto_region 2 with fail
  generalize w.alloc (.cells cs0 41) = W at *
  generalize hgw : w.heap.size = G at *
  obtain ⟨n, hnn⟩ : ∃ n, n = B.txs.n := ⟨_, rfl⟩
  rw [← hnn] at cT hn
  have HN := Lib.hid hnn
  obtain ⟨ta, hta⟩ : ∃ ta, ta = B.txs.a := ⟨_, rfl⟩
  rw [← hta] at cT
  have HTA := Lib.hid hta
  clear hnn hta
  have hGW : G ≤ W.heap.size := by rw [← hgw]; exact K0.out.size
  go_wp2
  go_loopg [5, 13] n (fun gh v i wx => ∃ (k : Nat) (o : Option Nat), k ≤ n ∧ i = .int .i64 (k : Int) ∧ gh = n - k ∧ Hid (RowV wx 26 1 v (txsN B.txs k).length (cellsL (txsN B.txs k)) o ∧ (∀ g, o = some g → W.heap.size ≤ g) ∧ Below W.heap.size W wx))
  case atStart => exact ⟨0, none, Nat.zero_le _, rfl, rfl, RowV.nil _ _ _, fun g hg => (by cases hg), Below.refl _ _⟩
  case round =>
    obtain ⟨k, o, hk, rfl, hg, HK⟩ := hrel
    have HG := Lib.hid hg
    clear hg
    by_cases hlt : k < n
    · obtain ⟨b, off, hba, hlen4, hcells, hok⟩ := HT.out.1.2.2.2 k (by rw [← HN.out]; exact hlt)
      have hcr := hcells.below HK.out.2.2
      have t0 := hcr 0 (by rw [hlen4]; decide)
      have t1 := hcr 1 (by rw [hlen4]; decide)
      have t2 := hcr 2 (by rw [hlen4]; decide)
      have t3 := hcr 3 (by rw [hlen4]; decide)
      simp only [txCs, SlD.cell, List.getElem?_cons_zero, List.getElem?_cons_succ, Nat.add_zero] at t0 t1 t2 t3
      have HO := Lib.hid (hok.2.2.1)
      have hon : (B.txs.x k).outs.n ≤ 1048576 := hok.2.2.1.2.1.1
      obtain ⟨m, hm⟩ : ∃ m, m = (B.txs.x k).outs.n := ⟨_, rfl⟩
      rw [← hm] at t2 hon
      have HM := Lib.hid hm
      obtain ⟨oa, hoa⟩ : ∃ oa, oa = (B.txs.x k).outs.a := ⟨_, rfl⟩
      rw [← hoa] at t2
      have HOA := Lib.hid hoa
      rw [← HTA.out] at hba
      subst hba
      clear hcells hcr hok hlen4 hm hoa
      go_upto_region 6 with fail
      have KA := Lib.hid (HK.out.2.2.alloc HK.out.2.2.size (.cells #[.int .u32 (B.txs.x k).ver, .slice (B.txs.x k).ins.a (B.txs.x k).ins.n (B.txs.x k).ins.c, .slice oa m (B.txs.x k).outs.c, .int .u32 (B.txs.x k).lock] 80))
      have RA := Lib.hid (HK.out.1.keep (X := fun _ => False) ((Keep.refl _ wr).alloc (.cells #[.int .u32 (B.txs.x k).ver, .slice (B.txs.x k).ins.a (B.txs.x k).ins.n (B.txs.x k).ins.c, .slice oa m (B.txs.x k).outs.c, .int .u32 (B.txs.x k).lock] 80)) (fun _ _ h => h))
      have hlk : (txsN B.txs k).length ≤ 1048576 * 1048576 := Nat.le_trans (txsN_len HT.out.1 k (by rw [← HN.out]; exact hk)) (Nat.mul_le_mul_right _ (by omega))
      have HLK := Lib.hid hlk
      clear t0 t1 t2 t3 hlk
      go_loopg [5, 20] m (fun gh v i wx => ∃ (j : Nat) (o : Option Nat), j ≤ m ∧ i = .int .i64 (j : Int) ∧ gh = m - j ∧ Hid (RowV wx 26 1 v (txsN B.txs k ++ outsN (B.txs.x k).outs j).length (cellsL (txsN B.txs k ++ outsN (B.txs.x k).outs j)) o ∧ (∀ g, o = some g → W.heap.size ≤ g) ∧ Below W.heap.size W wx))
      case atStart => exact ⟨0, o, Nat.zero_le _, rfl, rfl, by show RowV _ _ _ _ (txsN B.txs k ++ []).length (cellsL (txsN B.txs k ++ [])) _; rw [List.append_nil]; exact RA.out, HK.out.2.1, KA.out⟩
      case round =>
        obtain ⟨j, o2, hj, rfl, hg2, HJ⟩ := hrel
        have HG2 := Lib.hid hg2
        clear hg2
        by_cases hlt2 : j < m
        · obtain ⟨b2, off2, hba2, hlen2, hcells2, hok2⟩ := HO.out.2.2.2 j (by rw [← HM.out]; exact hlt2)
          have hcr2 := hcells2.below HJ.out.2.2
          have s0 := hcr2 0 (by rw [hlen2]; decide)
          have s1 := hcr2 1 (by rw [hlen2]; decide)
          simp only [outCs, RwD.cell, List.getElem?_cons_zero, List.getElem?_cons_succ, Nat.add_zero] at s0 s1
          have hrow := (hok2.1.1.below HJ.out.2.2)
          have HROW := Lib.hid hrow
          have hnext : outsN (B.txs.x k).outs (j + 1) = outsN (B.txs.x k).outs j ++ (if keepB ((B.txs.x k).outs.x j).script.z then [((B.txs.x k).outs.x j).script] else []) := rfl
          have hcat : cellsL (txsN B.txs k ++ outsN (B.txs.x k).outs j) ++ [((B.txs.x k).outs.x j).script.cell] = cellsL (txsN B.txs k ++ (outsN (B.txs.x k).outs j ++ [((B.txs.x k).outs.x j).script])) := by rw [snoc_cells, List.append_assoc]
          have hll : (txsN B.txs k ++ outsN (B.txs.x k).outs j).length ≤ 1048576 * 1048576 + 1048576 := by
            have := outsN_len (B.txs.x k).outs j
            have := HLK.out
            rw [List.length_append]; omega
          generalize hr : ((B.txs.x k).outs.x j).script = r at *
          have hkb : keepB r.z = (decide (0 < r.z.length) && (r.z.getD 0 0 != 106)) := rfl
          generalize hL : txsN B.txs k ++ outsN (B.txs.x k).outs j = L at *
          have HX := Lib.hid (And.intro hnext (And.intro hcat (And.intro hll (And.intro hkb hL))))
          rw [← HOA.out] at hba2
          subst hba2
          clear hrow hcells2 hcr2 hok2 hlen2 hnext hcat hll hkb hL
          obtain ⟨z, hz⟩ : ∃ z, z = r.z.length := ⟨_, rfl⟩
          rw [← hz] at s1
          have HZ := Lib.hid hz
          clear hz
          have KA2 := Lib.hid (HJ.out.2.2.alloc HJ.out.2.2.size (.cells #[.int .i64 ((B.txs.x k).outs.x j).val, .slice r.a z r.c] 83))
          have RA2 := Lib.hid (HJ.out.1.keep (X := fun _ => False) ((Keep.refl _ wr).alloc (.cells #[.int .i64 ((B.txs.x k).outs.x j).val, .slice r.a z r.c] 83)) (fun _ _ h => h))
          by_cases hz0 : z = 0
          · subst hz0
            have hno : keepB r.z = false := by rw [HX.out.2.2.2.1, ← HZ.out]; rfl
            have HNX : Hid (txsN B.txs k ++ outsN (B.txs.x k).outs (j + 1) = L) := Lib.hid (by rw [HX.out.1, hno]; simp only [Bool.false_eq_true, if_false, List.append_nil]; exact HX.out.2.2.2.2)
            clear hno
            go_wp2
            go_roundg (m - (j + 1))
            case measure => rw [HG2.out]; omega
            case rel => exact ⟨j + 1, o2, hlt2, rfl, rfl, by rw [HNX.out]; exact RA2.out, HJ.out.2.1, KA2.out⟩
          · obtain ⟨pb, po, hA, hcl⟩ := HROW.out.bytes.at (by rw [← HZ.out]; omega)
            have c0 := hcl 0 (by rw [← HZ.out]; omega)
            rw [Nat.add_zero] at c0
            rw [hA] at s1 KA2 RA2
            have z1 : ¬ ((z : Int) = 0) := by omega
            have z2 : ((z : Int) == 0) = false := by rw [beq_eq_false_iff_ne]; omega
            have z3 : (0 : Int) < (z : Int) := by omega
            have hkz : keepB r.z = (r.z.getD 0 0 != 106) := by rw [HX.out.2.2.2.1, ← HZ.out, decide_eq_true (show 0 < z from by omega), Bool.true_and]
            have HKZ := Lib.hid hkz
            have HA := Lib.hid hA
            have c1 : (wr.alloc (.cells #[.int .i64 ((B.txs.x k).outs.x j).val, .slice (some ⟨pb, po, none⟩) z r.c] 83)).cell? ⟨pb, po, none⟩ = some (.int .u8 (r.z.getD 0 0)) := ((Below.refl wr.heap.size wr).alloc (Nat.le_refl _) _).cell (p := ⟨pb, po, none⟩) (cell_lt c0) |>.trans c0
            clear hcl hkz hA
            generalize r.z.getD 0 0 = y at *
            by_cases hy : y = 106
            · subst hy
              have HNX : Hid (txsN B.txs k ++ outsN (B.txs.x k).outs (j + 1) = L) := Lib.hid (by rw [HX.out.1, HKZ.out]; simp only [bne_self_eq_false, Bool.false_eq_true, if_false, List.append_nil]; exact HX.out.2.2.2.2)
              go_wp2
              go_roundg (m - (j + 1))
              case measure => rw [HG2.out]; omega
              case rel => exact ⟨j + 1, o2, hlt2, rfl, rfl, by rw [HNX.out]; exact RA2.out, HJ.out.2.1, KA2.out⟩
            · have y1 : (y == 106) = false := by rw [beq_eq_false_iff_ne]; exact hy
              have y2 : (y != 106) = true := by rw [bne_iff_ne]; exact hy
              have HNX : Hid (txsN B.txs k ++ outsN (B.txs.x k).outs (j + 1) = L ++ [r]) := Lib.hid (by rw [HX.out.1, HKZ.out, y2, if_pos rfl, ← HX.out.2.2.2.2, List.append_assoc])
              have cA : (wr.alloc (.cells #[.int .i64 ((B.txs.x k).outs.x j).val, .slice (some ⟨pb, po, none⟩) z r.c] 83)).cell? ⟨wr.heap.size, 1, none⟩ = some (.slice (some ⟨pb, po, none⟩) z r.c) := (Blk.new wr _ _).cell 1
              go_upto_region 9 with fail
              generalize wr.alloc (.cells #[.int .i64 ((B.txs.x k).outs.x j).val, .slice (some ⟨pb, po, none⟩) z r.c] 83) = wA at *
              generalize hwb : wr.heap.size = wb at *
              obtain ⟨g5, c5, w5, run5, rv5, ho5, hk5⟩ := rowV_append1 (P := Try.prog) 24 24 i0 (.slice none 0 0) Try.underlying24 HI.out.1 HI.out.2.1 HI.out.2.2.1 HI.out.2.2.2 rfl RA2.out (.slice (some ⟨pb, po, none⟩) z r.c) rfl (by have := HX.out.2.2.1; unfold maxLen; omega) (by have := HX.out.2.2.1; omega)
              have hmv : some g5 = o2 ∨ ∃ g, some g5 = some g ∧ wA.heap.size ≤ g := by
                rcases ho5 with h | h
                · exact .inl h.symm
                · exact .inr ⟨g5, rfl, h⟩
              have hst := own_step (w0 := W) rfl KA2.out HJ.out.2.1 hmv hk5
              have hcl5 : cellsL L ++ [.slice (some ⟨pb, po, none⟩) z r.c] = cellsL (L ++ [r]) := by rw [← snoc_cells]; unfold RwD.cell; rw [HA.out, ← HZ.out]
              rw [hcl5] at rv5
              have H5 := Lib.hid (And.intro rv5 hst)
              obtain ⟨p8, c8, rfl, _⟩ := HJ.out.1.form
              clear rv5 ho5 hk5 hmv hst hcl5
              generalize hlL : L.length = lL at *
              have HLL := Lib.hid hlL
              clear hlL
              go_wp2_with (at_builtin; refine wpl_append rfl _ _ 24 rfl rfl rfl run5 ?_)
              go_roundg (m - (j + 1))
              case measure => rw [HG2.out]; omega
              case rel => exact ⟨j + 1, some g5, hlt2, rfl, rfl, by rw [HNX.out, List.length_append, HLL.out]; exact H5.out.1, H5.out.2.1, H5.out.2.2⟩
        · obtain rfl : j = m := by omega
          have HNX : Hid (txsN B.txs (k + 1) = txsN B.txs k ++ outsN (B.txs.x k).outs j) := Lib.hid (by rw [HM.out]; rfl)
          go_wp2
          go_roundg (n - (k + 1))
          case measure => rw [HG.out]; omega
          case rel => exact ⟨k + 1, o2, hlt, rfl, rfl, by rw [HNX.out]; exact HJ.out.1, HJ.out.2.1, HJ.out.2.2⟩
    · obtain rfl : k = n := by omega
      have hok1 := (txsN_ok HT.out.1 k (by rw [← HN.out]; exact Nat.le_refl _)).below HK.out.2.2
      have hrw := HT.out.2.below HK.out.2.2
      have hlk : (txsN B.txs k).length ≤ 1048576 * 1048576 := Nat.le_trans (txsN_len HT.out.1 k (by rw [← HN.out]; exact Nat.le_refl _)) (Nat.mul_le_mul_right _ (by omega))
      have hall : allRows B A C Z len = txsN B.txs k ++ rowsN A C Z len := by unfold allRows; rw [HN.out]
      have HALL := Lib.hid hall
      generalize txsN B.txs k = L at *
      have KW := Lib.hid (K0.out.trans (HK.out.2.2.mono hGW))
      obtain ⟨p8, c8, rfl, _⟩ := HK.out.1.form
      have bn := Blk.new wr #[.slice p8 L.length c8, .slice a0 len cap] 24
      have ka := (Below.refl wr.heap.size wr).alloc (Nat.le_refl _) (.cells #[.slice p8 L.length c8, .slice a0 len cap] 24)
      have hci : CatIn (wr.alloc (.cells #[.slice p8 L.length c8, .slice a0 len cap] 24)) (some ⟨wr.heap.size, 0, none⟩) 2 (fun i => if i = 0 then p8 else a0) (fun i => if i = 0 then L.length else len) (fun i => if i = 0 then c8 else cap) (fun i => if i = 0 then cellsL L else cellsL (rowsN A C Z len)) := fun i hi2 => by
        refine ⟨wr.heap.size, 0, rfl, ?_⟩
        rw [Nat.zero_add]
        rcases (by omega : i = 0 ∨ i = 1) with rfl | rfl
        · refine ⟨bn.cell 0, cellsL_len L, cellsL_one L, fun h0 => ?_⟩
          have h0' : 0 < L.length := h0
          obtain ⟨g, cp, _, e, _, _, hgl, hc, _⟩ := HK.out.1.mem h0'
          injection e with e1
          refine ⟨g, 0, e1, fun j u hu => ?_⟩
          have hu' : (cellsL L)[j]? = some u := hu
          have hj : j < L.length := by have := (List.getElem?_eq_some_iff.1 hu').1; rwa [cellsL_len] at this
          rw [Nat.zero_add, ka.cell (p := ⟨g, j, none⟩) hgl, hc j (by omega)]
          exact hu'
        · refine ⟨bn.cell 1, by show (cellsL (rowsN A C Z len)).length = len; rw [cellsL_len, rowsN_len], cellsL_one _, fun h0 => ?_⟩
          have h0' : 0 < len := h0
          obtain ⟨b, o', e1, h2, _⟩ := hrw 0 h0'
          refine ⟨b, o', e1, fun j u hu => ?_⟩
          have hu' : (cellsL (rowsN A C Z len))[j]? = some u := hu
          have hj : j < len := by have := (List.getElem?_eq_some_iff.1 hu').1; rwa [cellsL_len, rowsN_len] at this
          obtain ⟨b', o'', e2, h3, _⟩ := hrw j hj
          rw [e1] at e2
          cases e2
          rw [ka.cell (p := ⟨b, o' + j, none⟩) (cell_lt h3), h3, ← hu']
          simp [cellsL, rowsN, hj, RwD.cell]
      have PC := Lib.hid (concat_R (some ⟨wr.heap.size, 0, none⟩) 2 2 _ _ _ _ (wr.alloc (.cells #[.slice p8 L.length c8, .slice a0 len cap] 24)) hci (by decide) (by show (0 + L.length + len) * 24 ≤ _; omega))
      have hkw := HK.out.2.2.alloc HK.out.2.2.size (.cells #[.slice p8 L.length c8, .slice a0 len cap] 24)
      have HKW := Lib.hid (And.intro hkw (And.intro (hok1.below ka) (hrw.below ka)))
      clear bn ka hci hok1 hrw hkw hall
      have hlL : L.length ≤ 1048576 * 1048576 := hlk
      obtain ⟨lL, hlLe⟩ : ∃ lL, lL = L.length := ⟨_, rfl⟩
      rw [← hlLe] at PC HKW ⊢
      have HLL := Lib.hid hlLe
      clear hlLe
      go_wp2_with fail
      refine PC.out.mono ?_
      rintro e w5 ⟨v5, o5, rfl, rv5, ho5, hb5⟩
      have rv6 : RowV w5 26 1 v5 (L ++ rowsN A C Z len).length (cellsL (L ++ rowsN A C Z len)) o5 := by
        have e1 : (L ++ rowsN A C Z len).length = 0 + lL + len := by rw [List.length_append, rowsN_len, ← HLL.out, Nat.zero_add]
        have e2 : cellsL (L ++ rowsN A C Z len) = [] ++ cellsL L ++ cellsL (rowsN A C Z len) := by simp [cellsL]
        rw [e1, e2]
        exact rv5
      rw [← HALL.out] at rv6
      have hok6 : AllOk w5 (allRows B A C Z len) := by rw [HALL.out]; exact (HKW.out.2.1.append (rowsN_ok HKW.out.2.2)).below hb5
      obtain ⟨q6, c6, rfl, hle6, hc6, hrows6⟩ := rows_of rv6 hok6
      have hlen6 : (allRows B A C Z len).length ≤ 5000000000000 := by rw [HALL.out, List.length_append, rowsN_len]; omega
      have PO := Lib.hid (ponce q6 _ c6 _ _ _ w5 hrows6 hlen6)
      have hGr : G ≤ wr.heap.size := by rw [← hgw]; exact KW.out.size
      have K5 := HKW.out.1.trans (hb5.mono HKW.out.1.size)
      have K5 := K0.out.trans (K5.mono hGW)
      have HK5 := Lib.hid K5
      have hG5 : G ≤ w5.heap.size := by rw [← hgw]; exact HK5.out.size
      have hit : itemsL (allRows B A C Z len) = unlikeN (fun i => ((allRows B A C Z len).getD i rwNil).z) (allRows B A C Z len).length := rfl
      have HIT := Lib.hid hit
      clear rv5 rv6 ho5 hb5 hok6 hrows6 hlen6 K5 hit
      generalize (allRows B A C Z len).length = lA at *
      go_wp2_with fail
      refine PO.out.mono ?_
      rintro e w7 ⟨⟨v7, rfl, hlist⟩, hb7⟩
      have HF := Lib.hid (And.intro (hlist.mono hG5) (HK5.out.trans (hb7.mono hG5)))
      clear hlist hb7
      go_wp2
      go_ret
      exact ⟨⟨_, rfl, by rw [hgw, HIT.out]; exact HF.out.1⟩, by rw [hgw]; exact HF.out.2⟩
set_option maxHeartbeats 6400000 in
theorem ritems (B : BlkD) (a0 : Option Addr) (len cap : Nat) (A : Nat → Option Addr) (C : Nat → Nat) (Z : Nat → List Int) (w : World) (hB : BlkOk 1048576 w B) (hR : RowsIn w a0 len A C Z) (hl : len ≤ 1048576) :
    Calls Try.prog 21 #[.agg (blkCs B).toArray, .slice a0 len cap] w fun e w' => (∃ v, e = .returned v ∧ ListOf w' w.heap.size v (itemsL (allRows B A C Z len))) ∧ Below w.heap.size w w' := by
  obtain ⟨i0, hi, hz0, hz1, hz2⟩ := info_parts rowinfo
  have HI := Lib.hid (And.intro hi (And.intro hz0 (And.intro hz1 hz2)))
  clear hi hz0 hz1 hz2
  have bn := Blk.new w (blkCs B).toArray 41
  have K0 := Lib.hid ((Below.refl w.heap.size w).alloc (Nat.le_refl _) (.cells (blkCs B).toArray 41))
  have HT := Lib.hid (And.intro (hB.2.below K0.out (fun x hx => TxOk.below K0.out hx)) (hR.below K0.out))
  have cT : (w.alloc (.cells (blkCs B).toArray 41)).cell? ⟨w.heap.size, 68, none⟩ = some (.slice B.txs.a B.txs.n B.txs.c) := by rw [bn.cell]; exact blk_txs B
  have hsz := blk_size B
  have hn : B.txs.n ≤ 1048576 := hB.2.2.1.1
  generalize hcs0 : (blkCs B).toArray = cs0 at *
  clear hB hR bn hcs0
  go_enter Try.func21, Try.ntmps21
  go_upto_region 2 with fail
  generalize w.alloc (.cells cs0 41) = W at *
  generalize hgw : w.heap.size = G at *
  obtain ⟨n, hnn⟩ : ∃ n, n = B.txs.n := ⟨_, rfl⟩
  rw [← hnn] at cT hn
  have HN := Lib.hid hnn
  obtain ⟨ta, hta⟩ : ∃ ta, ta = B.txs.a := ⟨_, rfl⟩
  rw [← hta] at cT
  have HTA := Lib.hid hta
  clear hnn hta
  have hGW : G ≤ W.heap.size := by rw [← hgw]; exact K0.out.size
  go_wp2
  go_loopg [5, 13] n (fun gh v i wx => ∃ (k : Nat) (o : Option Nat), k ≤ n ∧ i = .int .i64 (k : Int) ∧ gh = n - k ∧ Hid (RowV wx 26 1 v (txsN B.txs k).length (cellsL (txsN B.txs k)) o ∧ (∀ g, o = some g → W.heap.size ≤ g) ∧ Below W.heap.size W wx))
  case atStart => exact ⟨0, none, Nat.zero_le _, rfl, rfl, RowV.nil _ _ _, fun g hg => (by cases hg), Below.refl _ _⟩
  case round =>
    obtain ⟨k, o, hk, rfl, hg, HK⟩ := hrel
    have HG := Lib.hid hg
    clear hg
    by_cases hlt : k < n
    · obtain ⟨b, off, hba, hlen4, hcells, hok⟩ := HT.out.1.2.2.2 k (by rw [← HN.out]; exact hlt)
      have hcr := hcells.below HK.out.2.2
      have t0 := hcr 0 (by rw [hlen4]; decide)
      have t1 := hcr 1 (by rw [hlen4]; decide)
      have t2 := hcr 2 (by rw [hlen4]; decide)
      have t3 := hcr 3 (by rw [hlen4]; decide)
      simp only [txCs, SlD.cell, List.getElem?_cons_zero, List.getElem?_cons_succ, Nat.add_zero] at t0 t1 t2 t3
      have HO := Lib.hid (hok.2.2.1)
      have hon : (B.txs.x k).outs.n ≤ 1048576 := hok.2.2.1.2.1.1
      obtain ⟨m, hm⟩ : ∃ m, m = (B.txs.x k).outs.n := ⟨_, rfl⟩
      rw [← hm] at t2 hon
      have HM := Lib.hid hm
      obtain ⟨oa, hoa⟩ : ∃ oa, oa = (B.txs.x k).outs.a := ⟨_, rfl⟩
      rw [← hoa] at t2
      have HOA := Lib.hid hoa
      rw [← HTA.out] at hba
      subst hba
      clear hcells hcr hok hlen4 hm hoa
      go_upto_region 6 with fail
      have KA := Lib.hid (HK.out.2.2.alloc HK.out.2.2.size (.cells #[.int .u32 (B.txs.x k).ver, .slice (B.txs.x k).ins.a (B.txs.x k).ins.n (B.txs.x k).ins.c, .slice oa m (B.txs.x k).outs.c, .int .u32 (B.txs.x k).lock] 80))
      have RA := Lib.hid (HK.out.1.keep (X := fun _ => False) ((Keep.refl _ wr).alloc (.cells #[.int .u32 (B.txs.x k).ver, .slice (B.txs.x k).ins.a (B.txs.x k).ins.n (B.txs.x k).ins.c, .slice oa m (B.txs.x k).outs.c, .int .u32 (B.txs.x k).lock] 80)) (fun _ _ h => h))
      have hlk : (txsN B.txs k).length ≤ 1048576 * 1048576 := Nat.le_trans (txsN_len HT.out.1 k (by rw [← HN.out]; exact hk)) (Nat.mul_le_mul_right _ (by omega))
      have HLK := Lib.hid hlk
      clear t0 t1 t2 t3 hlk
      go_loopg [5, 20] m (fun gh v i wx => ∃ (j : Nat) (o : Option Nat), j ≤ m ∧ i = .int .i64 (j : Int) ∧ gh = m - j ∧ Hid (RowV wx 26 1 v (txsN B.txs k ++ outsN (B.txs.x k).outs j).length (cellsL (txsN B.txs k ++ outsN (B.txs.x k).outs j)) o ∧ (∀ g, o = some g → W.heap.size ≤ g) ∧ Below W.heap.size W wx))
      case atStart => exact ⟨0, o, Nat.zero_le _, rfl, rfl, by show RowV _ _ _ _ (txsN B.txs k ++ []).length (cellsL (txsN B.txs k ++ [])) _; rw [List.append_nil]; exact RA.out, HK.out.2.1, KA.out⟩
      case round =>
        obtain ⟨j, o2, hj, rfl, hg2, HJ⟩ := hrel
        have HG2 := Lib.hid hg2
        clear hg2
        by_cases hlt2 : j < m
        · obtain ⟨b2, off2, hba2, hlen2, hcells2, hok2⟩ := HO.out.2.2.2 j (by rw [← HM.out]; exact hlt2)
          have hcr2 := hcells2.below HJ.out.2.2
          have s0 := hcr2 0 (by rw [hlen2]; decide)
          have s1 := hcr2 1 (by rw [hlen2]; decide)
          simp only [outCs, RwD.cell, List.getElem?_cons_zero, List.getElem?_cons_succ, Nat.add_zero] at s0 s1
          have hrow := (hok2.1.1.below HJ.out.2.2)
          have HROW := Lib.hid hrow
          have hnext : outsN (B.txs.x k).outs (j + 1) = outsN (B.txs.x k).outs j ++ (if keepB ((B.txs.x k).outs.x j).script.z then [((B.txs.x k).outs.x j).script] else []) := rfl
          have hcat : cellsL (txsN B.txs k ++ outsN (B.txs.x k).outs j) ++ [((B.txs.x k).outs.x j).script.cell] = cellsL (txsN B.txs k ++ (outsN (B.txs.x k).outs j ++ [((B.txs.x k).outs.x j).script])) := by rw [snoc_cells, List.append_assoc]
          have hll : (txsN B.txs k ++ outsN (B.txs.x k).outs j).length ≤ 1048576 * 1048576 + 1048576 := by
            have := outsN_len (B.txs.x k).outs j
            have := HLK.out
            rw [List.length_append]; omega
          generalize hr : ((B.txs.x k).outs.x j).script = r at *
          have hkb : keepB r.z = (decide (0 < r.z.length) && (r.z.getD 0 0 != 106)) := rfl
          generalize hL : txsN B.txs k ++ outsN (B.txs.x k).outs j = L at *
          have HX := Lib.hid (And.intro hnext (And.intro hcat (And.intro hll (And.intro hkb hL))))
          rw [← HOA.out] at hba2
          subst hba2
          clear hrow hcells2 hcr2 hok2 hlen2 hnext hcat hll hkb hL
          obtain ⟨z, hz⟩ : ∃ z, z = r.z.length := ⟨_, rfl⟩
          rw [← hz] at s1
          have HZ := Lib.hid hz
          clear hz
          have KA2 := Lib.hid (HJ.out.2.2.alloc HJ.out.2.2.size (.cells #[.int .i64 ((B.txs.x k).outs.x j).val, .slice r.a z r.c] 83))
          have RA2 := Lib.hid (HJ.out.1.keep (X := fun _ => False) ((Keep.refl _ wr).alloc (.cells #[.int .i64 ((B.txs.x k).outs.x j).val, .slice r.a z r.c] 83)) (fun _ _ h => h))
          by_cases hz0 : z = 0
          · subst hz0
            have hno : keepB r.z = false := by rw [HX.out.2.2.2.1, ← HZ.out]; rfl
            have HNX : Hid (txsN B.txs k ++ outsN (B.txs.x k).outs (j + 1) = L) := Lib.hid (by rw [HX.out.1, hno]; simp only [Bool.false_eq_true, if_false, List.append_nil]; exact HX.out.2.2.2.2)
            clear hno
            go_wp2
            go_roundg (m - (j + 1))
            case measure => rw [HG2.out]; omega
            case rel => exact ⟨j + 1, o2, hlt2, rfl, rfl, by rw [HNX.out]; exact RA2.out, HJ.out.2.1, KA2.out⟩
          · obtain ⟨pb, po, hA, hcl⟩ := HROW.out.bytes.at (by rw [← HZ.out]; omega)
            have c0 := hcl 0 (by rw [← HZ.out]; omega)
            rw [Nat.add_zero] at c0
            rw [hA] at s1 KA2 RA2
            have z1 : ¬ ((z : Int) = 0) := by omega
            have z2 : ((z : Int) == 0) = false := by rw [beq_eq_false_iff_ne]; omega
            have z3 : (0 : Int) < (z : Int) := by omega
            have hkz : keepB r.z = (r.z.getD 0 0 != 106) := by rw [HX.out.2.2.2.1, ← HZ.out, decide_eq_true (show 0 < z from by omega), Bool.true_and]
            have HKZ := Lib.hid hkz
            have HA := Lib.hid hA
            have c1 : (wr.alloc (.cells #[.int .i64 ((B.txs.x k).outs.x j).val, .slice (some ⟨pb, po, none⟩) z r.c] 83)).cell? ⟨pb, po, none⟩ = some (.int .u8 (r.z.getD 0 0)) := ((Below.refl wr.heap.size wr).alloc (Nat.le_refl _) _).cell (p := ⟨pb, po, none⟩) (cell_lt c0) |>.trans c0
            clear hcl hkz hA
            generalize r.z.getD 0 0 = y at *
            by_cases hy : y = 106
            · subst hy
              have HNX : Hid (txsN B.txs k ++ outsN (B.txs.x k).outs (j + 1) = L) := Lib.hid (by rw [HX.out.1, HKZ.out]; simp only [bne_self_eq_false, Bool.false_eq_true, if_false, List.append_nil]; exact HX.out.2.2.2.2)
              go_wp2
              go_roundg (m - (j + 1))
              case measure => rw [HG2.out]; omega
              case rel => exact ⟨j + 1, o2, hlt2, rfl, rfl, by rw [HNX.out]; exact RA2.out, HJ.out.2.1, KA2.out⟩
            · have y1 : (y == 106) = false := by rw [beq_eq_false_iff_ne]; exact hy
              have y2 : (y != 106) = true := by rw [bne_iff_ne]; exact hy
              have HNX : Hid (txsN B.txs k ++ outsN (B.txs.x k).outs (j + 1) = L ++ [r]) := Lib.hid (by rw [HX.out.1, HKZ.out, y2, if_pos rfl, ← HX.out.2.2.2.2, List.append_assoc])
              have cA : (wr.alloc (.cells #[.int .i64 ((B.txs.x k).outs.x j).val, .slice (some ⟨pb, po, none⟩) z r.c] 83)).cell? ⟨wr.heap.size, 1, none⟩ = some (.slice (some ⟨pb, po, none⟩) z r.c) := (Blk.new wr _ _).cell 1
              go_upto_region 9 with fail
              generalize wr.alloc (.cells #[.int .i64 ((B.txs.x k).outs.x j).val, .slice (some ⟨pb, po, none⟩) z r.c] 83) = wA at *
              generalize hwb : wr.heap.size = wb at *
              obtain ⟨g5, c5, w5, run5, rv5, ho5, hk5⟩ := rowV_append1 (P := Try.prog) 24 24 i0 (.slice none 0 0) Try.underlying24 HI.out.1 HI.out.2.1 HI.out.2.2.1 HI.out.2.2.2 rfl RA2.out (.slice (some ⟨pb, po, none⟩) z r.c) rfl (by have := HX.out.2.2.1; unfold maxLen; omega) (by have := HX.out.2.2.1; omega)
              have hmv : some g5 = o2 ∨ ∃ g, some g5 = some g ∧ wA.heap.size ≤ g := by
                rcases ho5 with h | h
                · exact .inl h.symm
                · exact .inr ⟨g5, rfl, h⟩
              have hst := own_step (w0 := W) rfl KA2.out HJ.out.2.1 hmv hk5
              have hcl5 : cellsL L ++ [.slice (some ⟨pb, po, none⟩) z r.c] = cellsL (L ++ [r]) := by rw [← snoc_cells]; unfold RwD.cell; rw [HA.out, ← HZ.out]
              rw [hcl5] at rv5
              have H5 := Lib.hid (And.intro rv5 hst)
              obtain ⟨p8, c8, rfl, _⟩ := HJ.out.1.form
              clear rv5 ho5 hk5 hmv hst hcl5
              generalize hlL : L.length = lL at *
              have HLL := Lib.hid hlL
              clear hlL
              go_wp2_with (at_builtin; refine wpl_append rfl _ _ 24 rfl rfl rfl run5 ?_)
              go_roundg (m - (j + 1))
              case measure => rw [HG2.out]; omega
              case rel => exact ⟨j + 1, some g5, hlt2, rfl, rfl, by rw [HNX.out, List.length_append, HLL.out]; exact H5.out.1, H5.out.2.1, H5.out.2.2⟩
        · obtain rfl : j = m := by omega
          have HNX : Hid (txsN B.txs (k + 1) = txsN B.txs k ++ outsN (B.txs.x k).outs j) := Lib.hid (by rw [HM.out]; rfl)
          go_wp2
          go_roundg (n - (k + 1))
          case measure => rw [HG.out]; omega
          case rel => exact ⟨k + 1, o2, hlt, rfl, rfl, by rw [HNX.out]; exact HJ.out.1, HJ.out.2.1, HJ.out.2.2⟩
    · obtain rfl : k = n := by omega
      have hok1 := (txsN_ok HT.out.1 k (by rw [← HN.out]; exact Nat.le_refl _)).below HK.out.2.2
      have hrw := HT.out.2.below HK.out.2.2
      have hlk : (txsN B.txs k).length ≤ 1048576 * 1048576 := Nat.le_trans (txsN_len HT.out.1 k (by rw [← HN.out]; exact Nat.le_refl _)) (Nat.mul_le_mul_right _ (by omega))
      have hall : allRows B A C Z len = txsN B.txs k ++ rowsN A C Z len := by unfold allRows; rw [HN.out]
      have HALL := Lib.hid hall
      generalize txsN B.txs k = L at *
      have KW := Lib.hid (K0.out.trans (HK.out.2.2.mono hGW))
      have hpn : 0 < len → ∃ pb po, a0 = some ⟨pb, po, none⟩ ∧ ∀ j u, (cellsL (rowsN A C Z len))[j]? = some u → wr.cell? ⟨pb, po + j, none⟩ = some u := fun h0 => by
        obtain ⟨b, o', e1, h2, _⟩ := hrw 0 h0
        refine ⟨b, o', e1, fun j u hu => ?_⟩
        have hj : j < len := by have := (List.getElem?_eq_some_iff.1 hu).1; rwa [cellsL_len, rowsN_len] at this
        obtain ⟨b', o'', e2, h3, _⟩ := hrw j hj
        rw [e1] at e2
        cases e2
        rw [h3, ← hu]
        simp [cellsL, rowsN, hj, RwD.cell]
      obtain ⟨v5, w5, o5, run5, rv5, ho5, hk5⟩ := rowV_appendN (P := Try.prog) 24 24 i0 (.slice none 0 0) Try.underlying24 HI.out.1 HI.out.2.1 HI.out.2.2.1 HI.out.2.2.2 rfl HK.out.1 (m := len) (c := cap) (by rw [cellsL_len, rowsN_len]) (cellsL_one _) hpn (by unfold maxLen; omega) (by omega)
      have hst := own_step (w0 := W) rfl HK.out.2.2 HK.out.2.1 ho5 hk5
      have rv6 : RowV w5 26 1 v5 (L ++ rowsN A C Z len).length (cellsL (L ++ rowsN A C Z len)) o5 := by
        have e1 : (L ++ rowsN A C Z len).length = L.length + len := by rw [List.length_append, rowsN_len]
        have e2 : cellsL (L ++ rowsN A C Z len) = cellsL L ++ cellsL (rowsN A C Z len) := by simp [cellsL]
        rw [e1, e2]
        exact rv5
      rw [← HALL.out] at rv6
      have hok0 := ((txsN_ok HT.out.1 k (by rw [← HN.out]; exact Nat.le_refl _)).append (rowsN_ok HT.out.2)).below hst.2
      have hok6 : AllOk w5 (allRows B A C Z len) := by unfold allRows; rw [← HN.out]; exact hok0
      obtain ⟨q6, c6, rfl, hle6, hc6, hrows6⟩ := rows_of rv6 hok6
      have hlen6 : (allRows B A C Z len).length ≤ 5000000000000 := by rw [HALL.out, List.length_append, rowsN_len]; omega
      have PO := Lib.hid (runlike q6 _ c6 _ _ _ w5 hrows6 hlen6)
      have HK5 := Lib.hid (K0.out.trans (hst.2.mono hGW))
      have hG5 : G ≤ w5.heap.size := by rw [← hgw]; exact HK5.out.size
      have hit : itemsL (allRows B A C Z len) = unlikeN (fun i => ((allRows B A C Z len).getD i rwNil).z) (allRows B A C Z len).length := rfl
      have HIT := Lib.hid hit
      obtain ⟨p8, c8, rfl, _⟩ := HK.out.1.form
      clear rv5 rv6 ho5 hk5 hst hok0 hok6 hrows6 hlen6 hit hpn hall hok1 hrw hlk
      generalize (allRows B A C Z len).length = lA at *
      generalize L.length = lL at *
      go_wp2_with (at_builtin; refine wpl_append rfl _ _ 24 rfl rfl rfl run5 ?_)
      refine PO.out.mono ?_
      rintro e w7 ⟨⟨v7, rfl, hlist⟩, hb7⟩
      have HF := Lib.hid (And.intro (hlist.mono hG5) (HK5.out.trans (hb7.mono hG5)))
      clear hlist hb7
      go_wp2
      go_ret
      exact ⟨⟨_, rfl, by rw [hgw, HIT.out]; exact HF.out.1⟩, by rw [hgw]; exact HF.out.2⟩
end Go.Proofs.Ytppcccocnmhbgaa
