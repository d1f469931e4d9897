import Derived.Test.YtbjbjgfjaopibaaGreatDoorLv24
import Derived.Test.YtbjbjgfjaopibaaGreatDoorLv23
section
/- The document's CopyBatch. -/
namespace Go.Proofs.YtbjbjgfjaopibaaGreatDoor
open Go Go.RowKit
set_option linter.unusedSimpArgs false
set_option linter.unusedVariables false
set_option maxRecDepth 100000

theorem rowV_empty (w : World) (e : TypeId) (k : Nat) : RowV (w.alloc (.cells #[] e)) e k (.slice (some ⟨w.heap.size, 0, none⟩) 0 0) 0 [] (some w.heap.size) :=
  ⟨by simp, .inr ⟨w.heap.size, 0, #[], rfl, rfl, Blk.new _ _ _, Nat.le_refl _, by simp, by decide, by simp⟩⟩
/-- strings put behind none -/
theorem strs_copy (s : SlD ByteArray) (w : World) (hs : SlOk MB 1 strCs StrOk w s) (hn : s.n * 16 ≤ 140737488351232) :
    ∃ q c w' o', (Builtin.append_ #[39, 39] 39 #[.slice (some ⟨w.heap.size, 0, none⟩) 0 0, .slice s.a s.n s.c]).run Tryz.prog (w.alloc (.cells #[] 9)) = .ok (.slice q s.n c) w' ∧ LstO strK 9 w' w.heap.size o' (.slice q s.n c) ((List.range s.n).map s.x) ∧ Below w.heap.size w w' := by
  obtain ⟨i1, z1, f1, f2, f3, f4, f5⟩ := info_ofJ strInf
  have ka := (Below.refl w.heap.size w).alloc (Nat.le_refl _) (.cells #[] 9)
  have R0 := rowV_empty w 9 1
  have hlen : ((List.range s.n).map s.x).length = s.n := by simp
  by_cases h0 : s.n = 0
  · refine ⟨some ⟨w.heap.size, 0, none⟩, 0, _, some w.heap.size, ?_, ⟨?_, fun g hg => by cases hg; exact Nat.le_refl _, fun x hx => ?_⟩, ka⟩
    · rw [h0]
      obtain ⟨sa, sn, sc, sx⟩ := s
      cases sa <;> simp [Builtin.append_, run_underlying Tryz.underlying39, sizeOf, typeInfo, f1, Builtin.lenOf, Builtin.firstCells, loadCells, loadCellsFrom, storeCells]
    · rw [hlen, h0]; exact R0
    · rw [h0] at hx; simp at hx
  · obtain ⟨b, o, ha, _⟩ := hs.2.2.2 0 (by omega)
    have hnews : ∀ j u, (((List.range s.n).map s.x).flatMap strK.cs)[j]? = some u → (w.alloc (.cells #[] 9)).cell? ((⟨b, o, none⟩ : Addr).add j) = some u := fun j u hu => by
      rw [strs_flat, List.getElem?_map, List.getElem?_map] at hu
      rcases Nat.lt_or_ge j s.n with hj | hj
      · rw [List.getElem?_range hj] at hu
        simp at hu
        subst hu
        obtain ⟨b', o', ha', _, hc, _⟩ := hs.2.2.2 j hj
        rw [ha] at ha'; cases ha'
        rw [Addr.add_lit]
        have hcell := hc 0 (by show 0 < 1; omega)
        rw [Nat.mul_one, Nat.add_zero] at hcell
        have hv : w.cell? ⟨b, o + j, none⟩ = some (.string (s.x j)) := hcell
        exact (ka.cell (p := ⟨b, o + j, none⟩) (cell_lt hv)).trans hv
      · rw [List.getElem?_eq_none (by simpa using hj)] at hu; cases hu
    obtain ⟨v', w', g', r1, r2, r3, r4⟩ := rowV_append (P := Tryz.prog) 39 39 i1 z1 Tryz.underlying39 f1 f2 f3 f4 f5 (by decide) R0 (a := ⟨b, o, none⟩) (m := s.n) (c := s.c) (news := ((List.range s.n).map s.x).flatMap strK.cs) (by rw [flat_len, hlen]; rfl) hnews (flat_one strK _) (by omega) (by unfold maxLen; omega) (by omega)
    obtain ⟨q, c, rfl, _⟩ := r2.form
    rw [← ha] at r1
    rw [Nat.zero_add] at r1 r2
    have hg' : w.heap.size ≤ g' := by
      rcases r3 with h | h
      · cases h; exact Nat.le_refl _
      · have := ka.size; omega
    refine ⟨q, c, w', some g', r1, ⟨?_, fun g hg => by cases hg; exact hg', fun x hx => ?_⟩, ka.trans (r4.below ka.size (fun k e => by cases e; exact Nat.le_refl _))⟩
    · rw [hlen]; exact r2
    · obtain ⟨i, hi, rfl⟩ := List.mem_map.1 hx
      obtain ⟨_, _, _, _, _, hok⟩ := hs.2.2.2 i (List.mem_range.1 hi)
      exact hok
/-- bytes put behind none, of any length -/
theorem none_appendL {ys : List Int} {p : Option Addr} {c : Nat} (w : World) (hy : Lib.BytesIn w p ys.length ys) (hb : ys.length ≤ 140737488355328) :
    ∃ q c' w' o', (Builtin.append_ #[22, 22] 22 #[.slice (some ⟨w.heap.size, 0, none⟩) 0 0, .slice p ys.length c]).run Tryz.prog (w.alloc (.cells #[] 5)) = .ok (.slice q ys.length c') w' ∧ Row w' 5 (.slice q ys.length c') ys o' ∧ (∃ g, o' = some g ∧ w.heap.size ≤ g) ∧ Below w.heap.size w w' := by
  obtain ⟨i0, hi, hz0, hz1, hz2⟩ := info_parts u8info
  have hy' : Lib.BytesIn (w.alloc (.cells #[] 5)) p ys.length ys := bytes_keep (X := fun _ => False) hy ((Keep.refl _ w).alloc _) (fun _ _ _ h => h)
  obtain ⟨v', w3, o', hrun, hrow, ho, hk⟩ := row_appendL (P := Tryz.prog) 22 22 i0 (.int .u8 0) Tryz.underlying22 hi hz0 hz1 hz2 rfl (row_none w) (c := c) hy' (by simpa using hb)
  obtain ⟨q3, c3', rfl, _⟩ := hrow.form
  simp only [List.nil_append] at hrun hrow
  have ka := (Below.refl w.heap.size w).alloc (Nat.le_refl _) (.cells #[] 5)
  refine ⟨q3, c3', w3, o', hrun, hrow, ?_, ka.trans (hk.below ka.size (fun k e => by cases e; exact Nat.le_refl _))⟩
  rcases ho with h | ⟨g, h, hg⟩
  · exact ⟨_, h, Nat.le_refl _⟩
  · exact ⟨g, h, Nat.le_trans ka.size hg⟩
/-- what the region reads -/
def S3 (g2 gx : Nat) (pv : Value) (k : ByteArray) (v : Value) (w : World) : Prop := w.cell? ⟨g2, 0, none⟩ = some pv ∧ w.cell? ⟨gx, 0, none⟩ = some (.string k) ∧ w.cell? ⟨gx, 1, none⟩ = some v
theorem S3.keep {g2 gx : Nat} {pv v : Value} {k : ByteArray} {w w' : World} {Y : Nat → Prop} (h : S3 g2 gx pv k v w) (hk : Keep Y w w') (h1 : ¬ Y g2) (h2 : ¬ Y gx) : S3 g2 gx pv k v w' :=
  ⟨(hk.cell (p := ⟨g2, 0, none⟩) (cell_lt h.1) h1).trans h.1, (hk.cell (p := ⟨gx, 0, none⟩) (cell_lt h.2.1) h2).trans h.2.1, (hk.cell (p := ⟨gx, 1, none⟩) (cell_lt h.2.2) h2).trans h.2.2⟩
/-- a pair whose value may be written -/
def pairW : EKind PairD where
  k := 2
  cs := pairCs
  at' := fun P w x => pairK.at' P w x ∧ ∀ q, x.val.a = some q → FreeAt w q.block
  len := fun _ => rfl
  one := pairK.one
  keep := fun {P X w w' x} h hk hn => ⟨pairK.keep h.1 hk hn, fun q hq => (h.2 q hq).keep hk (hn _ (h.1.2.2 q hq))⟩
  mono := fun h hm => ⟨pairK.mono h.1 hm, h.2⟩
theorem lstW {e : TypeId} {w : World} {G : Nat} {v : Value} {X : List PairD} (h : LstAt pairW e w G v X) : LstAt pairK e w G v X := by
  obtain ⟨o, h1, h2, h3⟩ := h
  exact ⟨o, h1, h2, fun x hx => (h3 x hx).1⟩
theorem row_free {w : World} {e : TypeId} {v : Value} {xs : List Int} {g : Nat} (h : Row w e v xs (some g)) : FreeAt w g := by
  rcases h with ⟨_, _, h⟩ | ⟨g', cap, cur, ho, _, hb, _⟩
  · cases h
  · cases ho; exact ⟨hb.lt, fun j => hb.free j⟩
/-- what CopyBatch answers -/
def CpyPost (x : BatD) (w : World) (e : Ending) (w' : World) : Prop := ∃ (pq dq : Option Addr) (pn dn : Nat) (P : List PairD) (Y : List ByteArray), e = .returned (.agg #[.slice pq P.length pn, .slice dq Y.length dn]) ∧ LstAt pairW 58 w' w.heap.size (.slice pq P.length pn) P ∧ LstAt strK 9 w' w.heap.size (.slice dq Y.length dn) Y ∧ x = ⟨P.map pairX, Y.map bsK⟩ ∧ Below w.heap.size w w'
set_option maxHeartbeats 12800000 in
theorem rcopyb (X : BatchD) (w : World) (hX : BatOk w X) (hn : X.puts.n * 40 ≤ 140737488351232) (hm : X.dels.n * 16 ≤ 140737488351232) (hv : ∀ i, i < X.puts.n → (X.puts.x i).val.z.length ≤ 140737488351232) :
    Calls Tryz.prog 12 #[.agg (batCs X).toArray] w (CpyPost (batX X) w) := by
  obtain ⟨⟨pa, n, pc, px⟩, ⟨da, m, dc, dx⟩⟩ := X
  change Calls Tryz.prog 12 #[.agg #[.slice pa n pc, .slice da m dc]] w _
  change n * 40 ≤ 140737488351232 at hn
  change m * 16 ≤ 140737488351232 at hm
  have hn40 := Lib.hid hn
  have hm16 := Lib.hid hm
  replace hn : n ≤ 3518437208780 := by omega
  replace hm : m ≤ 8796093021952 := by omega
  have L := blks3 w #[.slice pa n pc, .slice da m dc] #[.slice none 0 0, .slice none 0 0] #[.slice none 0 0, .slice none 0 0] 41 41 41
  have hs0 : (((w.alloc (.cells #[.slice pa n pc, .slice da m dc] 41)).alloc (.cells #[.slice none 0 0, .slice none 0 0] 41)).alloc (.cells #[.slice none 0 0, .slice none 0 0] 41)).heap.size = w.heap.size + 3 := by simp
  have c0 := L.1.cell 0
  have HX := Lib.hid (And.intro hX hv)
  have HL := Lib.hid (And.intro L hs0)
  clear hX hv L hs0
  go_enter Tryz.func12, Tryz.ntmps12
  go_upto_region 2 with fail
  generalize ((w.alloc (.cells #[.slice pa n pc, .slice da m dc] 41)).alloc (.cells #[.slice none 0 0, .slice none 0 0] 41)).alloc (.cells #[.slice none 0 0, .slice none 0 0] 41) = w0 at *
  generalize hgw : w.heap.size = g at *
  change w0.cell? ⟨g, 0, none⟩ = some (.slice pa n pc) at c0
  go_wp2
  go_loopg [9] n (fun gh i wx => ∃ (k : Nat) (P : List PairD) (o : Option Nat) (pv : Value), i = .int .i64 (k : Int) ∧ gh = n - k ∧ k ≤ n ∧ Hid (Blk wx (g + 2) #[pv, .slice none 0 0] 41 ∧ LstO pairW 58 wx (g + 3) o pv P ∧ P.map pairX = (batX ⟨⟨pa, n, pc, px⟩, ⟨da, m, dc, dx⟩⟩).puts.take k ∧ Keep (fun b => b = g + 2) w0 wx))
  case atStart => exact ⟨0, [], none, _, rfl, rfl, Nat.zero_le _, HL.out.1.2.2.1, LstO.nil _ _ _ _, rfl, Keep.refl _ _⟩
  case round =>
    obtain ⟨k, P, o, pv, rfl, hg, hkn, HK⟩ := hrel
    have HG := Lib.hid hg
    clear hg
    obtain ⟨pq, pn, rfl, _⟩ := HK.out.2.1.1.form
    have hPl : P.length = k := by
      have h := congrArg List.length HK.out.2.2.1
      rw [List.length_map, List.length_take] at h
      rw [h]
      show min k ((List.range n).map _).length = k
      rw [List.length_map, List.length_range]; omega
    by_cases hlt : k < n
    · obtain ⟨b, off, hpa, _, hca, hok⟩ := HX.out.1.1.2.2.2 k hlt
      change pa = some ⟨b, off, none⟩ at hpa
      subst hpa
      have hvk := HX.out.2 k hlt
      have hTk : (batX ⟨⟨some ⟨b, off, none⟩, n, pc, px⟩, ⟨da, m, dc, dx⟩⟩).puts.take (k + 1) = (batX ⟨⟨some ⟨b, off, none⟩, n, pc, px⟩, ⟨da, m, dc, dx⟩⟩).puts.take k ++ [pairX (px k)] := by
        rw [List.take_add_one]
        congr 1
        show (((List.range n).map fun i => (bsK (px i).key, (px i).val.z))[k]?).toList = _
        rw [List.getElem?_map, List.getElem?_range hlt]; rfl
      change CellsAt w b (off + k * 2) (pairCs (px k)) at hca
      change PairOk w (px k) at hok
      change (px k).val.z.length ≤ 140737488351232 at hvk
      generalize px k = y at hca hok hvk hTk
      obtain ⟨yk, ⟨va, vc, vz⟩⟩ := y
      change vz.length ≤ 140737488351232 at hvk
      have hb0 : Below g w wr := HL.out.1.2.2.2.trans (HK.out.2.2.2.below (by have := HL.out.2; omega) (fun b e => by omega))
      have hca2 : CellsAt wr b (off + k * 2) (pairCs ⟨yk, ⟨va, vc, vz⟩⟩) := hca.below (by rw [hgw]; exact hb0)
      have t0 : wr.cell? ⟨b, off + k * 2, none⟩ = some (.string yk) := hca2 0 (by show 0 < 2; omega)
      have t1 : wr.cell? ⟨b, off + k * 2 + 1, none⟩ = some (.slice va vz.length vc) := hca2 1 (by show 1 < 2; omega)
      have hok2 : PairOk wr ⟨yk, ⟨va, vc, vz⟩⟩ := hok.below (by rw [hgw]; exact hb0)
      have bx := Blk.new wr #[.string yk, .slice va vz.length vc] 58
      have kx := (Below.refl wr.heap.size wr).alloc (Nat.le_refl _) (.cells #[.string yk, .slice va vz.length vc] 58)
      obtain ⟨gx, hgx⟩ : ∃ gx, gx = wr.heap.size := ⟨_, rfl⟩
      obtain ⟨zl, hzl⟩ : ∃ zl, zl = vz.length := ⟨_, rfl⟩
      obtain ⟨w4, hw4⟩ : ∃ w4, w4 = wr.alloc (.cells #[.string yk, .slice va vz.length vc] 58) := ⟨_, rfl⟩
      have hs4 : w4.heap.size = wr.heap.size + 1 := by rw [hw4]; simp
      rw [← hw4] at bx kx
      rw [← hzl] at hw4 t1 bx
      have kd : Keep (fun _ => False) wr w4.drew := (Keep.of_below kx).drew
      have hs3 : S3 (g + 2) wr.heap.size (.slice pq P.length pn) yk (.slice va zl vc) w4.drew := ⟨(kd.blk HK.out.1 (fun h => h)).cell 0, ((Keep.refl (fun _ => False) w4).drew.blk bx (fun h => h)).cell 0, ((Keep.refl (fun _ => False) w4).drew.blk bx (fun h => h)).cell 1⟩
      have hbr : Lib.BytesIn w4.drew va vz.length vz := bytes_keep hok2.2.1.bytes kd (fun _ _ _ h => h)
      obtain ⟨q7, c7, w7, o7, run7, R7, ⟨g7, hg7, hgl7⟩, B7⟩ := none_appendL (ys := vz) (c := vc) w4.drew hbr (by omega)
      change (Builtin.append_ #[22, 22] 22 #[.slice (some ⟨w4.drew.heap.size, 0, none⟩) 0 0, .slice va vz.length vc]).run Tryz.prog (w4.drew.alloc (.cells #[] 5)) = .ok (.slice q7 vz.length c7) w7 at run7
      obtain ⟨hrr, hrq⟩ := rowOf_clone R7 (by omega) hok2.2.1.range
      rw [hg7] at hrq
      have R7free : FreeAt w7 g7 := by
        rw [hg7] at R7
        exact row_free R7
      have kd7 : Keep (fun _ => False) wr w7 := kd.trans' (Keep.of_below (X := fun _ => False) B7) (fun _ h => h.elim)
      have hs7 : wr.heap.size + 1 ≤ w7.heap.size := by have h1 := B7.size; have h2 : w4.drew.heap.size = w4.heap.size := rfl; omega
      have hgd : w4.drew.heap.size = w4.heap.size := rfl
      have hglt := R7.lt g7 hg7
      have hgs : g + 3 ≤ wr.heap.size := by have := HK.out.2.2.2.size; have := HL.out.2; omega
      have hat7 : pairW.at' (fun b => g + 3 ≤ b ∧ b < w7.heap.size ∧ o ≠ some b) w7 ⟨yk, ⟨q7, c7, vz⟩⟩ := ⟨⟨hok2.1, ⟨hrr, by show vz.length ≤ MB; unfold MB; omega⟩, fun q hq => by
        have hqb := hrq q hq
        cases hqb
        exact ⟨by omega, hglt, fun e => by have := HK.out.2.1.lt _ e; omega⟩⟩, fun q hq => by
        have hqb := hrq q hq
        cases hqb
        exact R7free⟩
      have L7 : LstO pairW 58 w7 (g + 3) o (.slice pq P.length pn) P := HK.out.2.1.keep kd7 (fun _ _ _ h => h)
      obtain ⟨i1, z1, f1, f2, f3, f4, f5⟩ := info_ofJ pairInf
      obtain ⟨q8, n8, v9, w9, o9, hv8, run9, L9, k9, ho9⟩ := L7.add 38 Tryz.underlying38 f1 f2 f3 f4 f5 (by decide) (by omega) hat7 (by unfold maxLen; omega) (by have := hn40.out; omega)
      cases hv8
      change (Builtin.append_ #[38, 38] 38 #[.slice pq P.length pn, .slice (some ⟨w7.heap.size, 0, none⟩) 1 1]).run Tryz.prog (w7.alloc (.cells #[.string yk, .slice q7 vz.length c7] 58)) = .ok v9 w9 at run9
      obtain ⟨q9, n9, rfl, _⟩ := L9.1.form
      have hP9 : (P ++ [(⟨yk, ⟨q7, c7, vz⟩⟩ : PairD)]).map pairX = (batX ⟨⟨some ⟨b, off, none⟩, n, pc, px⟩, ⟨da, m, dc, dx⟩⟩).puts.take (k + 1) := by
        rw [hTk, List.map_append, HK.out.2.2.1]; rfl
      obtain ⟨l9, hl9⟩ : ∃ l9, l9 = (P ++ [(⟨yk, ⟨q7, c7, vz⟩⟩ : PairD)]).length := ⟨_, rfl⟩
      rw [← hl9] at run9 L9
      rw [← hzl] at run7 run9
      have hole : ∀ b, o = some b → g + 3 ≤ b := HK.out.2.1.2.1
      have hgx2 : ∀ b, o = some b → b < wr.heap.size := HK.out.2.1.lt
      rw [hPl] at run9 hs3
      rw [← hgx] at hs3
      have HS := Lib.hid (And.intro kd7 (And.intro L9 (And.intro k9 (And.intro ho9 (And.intro hP9 (And.intro hs7 (And.intro hgs (And.intro B7 (And.intro hole (And.intro hgx2 (And.intro hgx (And.intro kd hs4))))))))))))
      clear hTk hok hok2 hca hca2 bx kx kd hbr hrr hrq hg7 hgl7 R7 hat7 L7 f1 f2 f3 f4 f5 L9 k9 ho9 hP9 hs7 hgs B7 hb0 hole hgx2 kd7 hs4 hgd hglt hvk hzl hl9
      go_upto_region 5 with fail
      rw [← hw4]
      rw [← hgx]
      clear hw4 hgx
      refine wp_region_last 12 (fun w' => S3 (g + 2) gx (.slice pq k pn) yk (.slice va zl vc) w') (by kernel_rfl) hs3 (fun hS => ?_)
      refine tkL 0 (v := ?_) rfl (by kernel_rfl) ⟨by rfl, ?_⟩ hS ?_
      rotate_left
      · intro w0 hs; obtain ⟨s1, s2, s3⟩ := hs; go_simp; try (with_reducible rfl)
      try simp only [Act.put, List.setIfInBounds_toArray, List.set_cons_zero, List.set_cons_succ]
      refine tkL 1 (v := ?_) rfl (by kernel_rfl) ⟨by rfl, ?_⟩ hS ?_
      rotate_left
      · intro w0 hs; obtain ⟨s1, s2, s3⟩ := hs; go_simp; try (with_reducible rfl)
      try simp only [Act.put, List.setIfInBounds_toArray, List.set_cons_zero, List.set_cons_succ]
      refine tkL 2 (v := ?_) rfl (by kernel_rfl) ⟨by rfl, ?_⟩ hS ?_
      rotate_left
      · intro w0 hs; obtain ⟨s1, s2, s3⟩ := hs; go_simp; try (with_reducible rfl)
      try simp only [Act.put, List.setIfInBounds_toArray, List.set_cons_zero, List.set_cons_succ]
      refine tkL 3 (v := ?_) rfl (by kernel_rfl) ⟨by rfl, ?_⟩ hS ?_
      rotate_left
      · intro w0 hs; obtain ⟨s1, s2, s3⟩ := hs; go_simp; try (with_reducible rfl)
      try simp only [Act.put, List.setIfInBounds_toArray, List.set_cons_zero, List.set_cons_succ]
      refine tkL 5 (v := ?_) rfl (by kernel_rfl) ⟨by rfl, ?_⟩ hS ?_
      rotate_left
      · intro w0 hs; obtain ⟨s1, s2, s3⟩ := hs; go_simp; try (with_reducible rfl)
      try simp only [Act.put, List.setIfInBounds_toArray, List.set_cons_zero, List.set_cons_succ]
      refine tkL 6 (v := ?_) rfl (by kernel_rfl) ⟨by rfl, ?_⟩ hS ?_
      rotate_left
      · intro w0 hs; obtain ⟨s1, s2, s3⟩ := hs; go_simp; try (with_reducible rfl)
      try simp only [Act.put, List.setIfInBounds_toArray, List.set_cons_zero, List.set_cons_succ]
      refine wpAnyL_one (i := 4) (oi := ⟨_, _, _, _, _, _⟩) rfl (by kernel_rfl) (fun K hK => ?_)
      rw [if_pos (by rfl)]
      go_simp
      have hc4 := hS
      have hS' := S3.keep hS ((Keep.refl (fun _ => False) w4.drew).alloc (.cells #[] 5)) (fun h => h) (fun h => h)
      refine hK.out _ _ (.inr hS') ?_
      clear hS hK
      have hS := hS'; clear hS'
      try simp only [Act.put, List.setIfInBounds_toArray, List.set_cons_zero, List.set_cons_succ]
      refine wpAnyL_one (i := 7) (oi := ⟨_, _, _, _, _, _⟩) rfl (by kernel_rfl) (fun K hK => ?_)
      rw [if_pos (by rfl)]
      refine wp_appI _ _ 22 rfl rfl rfl run7 ?_
      have hc7 := hS
      have hS' := S3.keep hs3 (Keep.of_below (X := fun _ => False) HS.out.2.2.2.2.2.2.2.1) (fun h => h) (fun h => h)
      refine hK.out _ _ (.inr hS') ?_
      clear hS hK
      have hS := hS'; clear hS'
      try simp only [Act.put, List.setIfInBounds_toArray, List.set_cons_zero, List.set_cons_succ]
      refine tkL 8 (v := ?_) rfl (by kernel_rfl) ⟨by rfl, ?_⟩ hS ?_
      rotate_left
      · intro w0 hs; obtain ⟨s1, s2, s3⟩ := hs; go_simp; try (with_reducible rfl)
      try simp only [Act.put, List.setIfInBounds_toArray, List.set_cons_zero, List.set_cons_succ]
      refine wpAnyL_one (i := 9) (oi := ⟨_, _, _, _, _, _⟩) rfl (by kernel_rfl) (fun K hK => ?_)
      rw [if_pos (by rfl)]
      go_simp
      have hS' := S3.keep hS ((Keep.refl (fun _ => False) w7).alloc (.cells #[.string yk, .slice q7 zl c7] 58)) (fun h => h) (fun h => h)
      refine hK.out _ _ (.inr hS') ?_
      clear hS hK
      have hS := hS'; clear hS'
      try simp only [Act.put, List.setIfInBounds_toArray, List.set_cons_zero, List.set_cons_succ]
      refine wpAnyL_one (i := 10) (oi := ⟨_, _, _, _, _, _⟩) rfl (by kernel_rfl) (fun K hK => ?_)
      rw [if_pos (by rfl)]
      refine wp_appI _ _ 38 rfl rfl rfl run9 ?_
      have hS' := S3.keep (S3.keep hs3 (Keep.of_below (X := fun _ => False) HS.out.2.2.2.2.2.2.2.1) (fun h => h) (fun h => h)) HS.out.2.2.1 (fun e => by have := HS.out.2.2.2.2.2.2.2.2.1 _ e; omega) (fun e => by have := HS.out.2.2.2.2.2.2.2.2.2.1 _ e; have := HS.out.2.2.2.2.2.2.2.2.2.2.1; omega)
      refine hK.out _ _ (.inr hS') ?_
      clear hS hK
      have hS := hS'; clear hS'
      try simp only [Act.put, List.setIfInBounds_toArray, List.set_cons_zero, List.set_cons_succ]
      refine tkL 11 (v := ?_) rfl (by kernel_rfl) ⟨by rfl, ?_⟩ hS ?_
      rotate_left
      · intro w0 hs; obtain ⟨s1, s2, s3⟩ := hs; go_simp; try (with_reducible rfl)
      try simp only [Act.put, List.setIfInBounds_toArray, List.set_cons_zero, List.set_cons_succ]
      refine wpAnyL_one (i := 12) (oi := ⟨_, _, _, _, _, _⟩) rfl (by kernel_rfl) (fun K hK => ?_)
      rw [if_pos (by rfl)]
      have b9 := HS.out.2.2.1.blk (HS.out.1.blk HK.out.1 (fun h => h)) (fun e => by have := HS.out.2.2.2.2.2.2.2.2.1 _ e; omega)
      have cz9 := b9.cell 0
      have fz9 := b9.free 0
      go_simp
      refine hK.out _ _ (.inl rfl) ?_
      clear hK
      try simp only [Act.put, List.setIfInBounds_toArray, List.set_cons_zero, List.set_cons_succ]
      refine wpAnyL_done (by kernel_rfl) ?_ _
      have b10 : Blk (w9.setCell ⟨g + 2, 0, none⟩ (.slice q9 l9 n9)) (g + 2) #[.slice q9 l9 n9, .slice none 0 0] 41 := b9.set 0 (.slice q9 l9 n9)
      have k10 : Keep (fun b => b = g + 2) w9 (w9.setCell ⟨g + 2, 0, none⟩ (.slice q9 l9 n9)) := Keep.set (X := fun k => k = g + 2) (Keep.refl _ w9) (p := ⟨g + 2, 0, none⟩) (.inl rfl) _
      have L10 := HS.out.2.1.keep k10 (fun b h1 h2 e => by have e' : b = g + 2 := e; omega)
      have K10 : Keep (fun b => b = g + 2) w0 (w9.setCell ⟨g + 2, 0, none⟩ (.slice q9 l9 n9)) := ((HK.out.2.2.2.trans (HS.out.1.mono (fun _ h => h.elim))).trans' HS.out.2.2.1 (fun b e => .inr (by have := HS.out.2.2.2.2.2.2.2.2.1 _ e; have := HL.out.2; omega))).trans k10
      have H10 := Lib.hid (And.intro b10 (And.intro L10 (And.intro HS.out.2.2.2.2.1 K10)))
      clear b10 k10 L10 K10 b9 cz9 fz9 run7 run9 hc4 hc7 hs3
      go_wp2
      go_roundg (n - (k + 1))
      case measure => rw [HG.out]; omega
      case rel => exact ⟨k + 1, _, _, _, by go_num, rfl, hlt, H10.out⟩
    · obtain rfl : k = n := by omega
      have hb0 : Below g w wr := HL.out.1.2.2.2.trans (HK.out.2.2.2.below (by have := HL.out.2; omega) (fun b e => by omega))
      have hsl : SlOk MB 1 strCs StrOk wr ⟨da, m, dc, dx⟩ := HX.out.1.2.below (by rw [hgw]; exact hb0) (fun _ h => h)
      obtain ⟨q5, c5, w5, o5, run5, L5, B5⟩ := strs_copy ⟨da, m, dc, dx⟩ wr hsl hm16.out
      change (Builtin.append_ #[39, 39] 39 #[.slice (some ⟨wr.heap.size, 0, none⟩) 0 0, .slice da m dc]).run Tryz.prog (wr.alloc (.cells #[] 9)) = .ok (.slice q5 m c5) w5 at run5
      have c1 : (wr.alloc (.cells #[] 9)).cell? ⟨g, 1, none⟩ = some (.slice da m dc) := (((HK.out.2.2.2.alloc (.cells #[] 9))).blk HL.out.1.1 (by omega)).cell 1
      have bz := (Keep.of_below (X := fun _ => False) B5).blk HK.out.1 (fun h => h)
      have bg := (Keep.of_below (X := fun _ => False) B5).blk (HK.out.2.2.2.blk HL.out.1.2.1 (by omega)) (fun h => h)
      rw [hPl] at bz
      have z0 : w5.cell? ⟨g + 1 + 1, 0, none⟩ = some (.slice pq k pn) := bz.cell 0
      have z1 : w5.cell? ⟨g + 1 + 1, 1, none⟩ = some (.slice none 0 0) := bz.cell 1
      have zf : ∀ i, w5.frozen? ⟨g + 1 + 1, i, none⟩ = false := fun i => bz.free i
      have y0 := bg.cell 0
      have y1 := bg.cell 1
      have yf := bg.free
      have hPx : P.map pairX = (batX ⟨⟨pa, k, pc, px⟩, ⟨da, m, dc, dx⟩⟩).puts := by
        rw [HK.out.2.2.1]
        exact List.take_of_length_le (by show ((List.range k).map _).length ≤ k; rw [List.length_map, List.length_range]; exact Nat.le_refl _)
      have hYx : ((List.range m).map dx).map bsK = (batX ⟨⟨pa, k, pc, px⟩, ⟨da, m, dc, dx⟩⟩).dels := by
        show _ = (List.range m).map fun i => bsK (dx i)
        rw [List.map_map]; rfl
      have hYl : ((List.range m).map dx).length = m := by simp
      have HF := Lib.hid (And.intro bz (And.intro bg (And.intro L5 (And.intro B5 (And.intro (HK.out.2.1.more B5) (And.intro hPx (And.intro hYx (And.intro hYl (And.intro hb0 (And.intro hPl (by have := HK.out.2.2.2.size; have := HL.out.2; omega : g + 3 ≤ wr.heap.size)))))))))))
      clear bz bg L5 B5 hsl hPx hYx hYl hb0 hPl
      go_wp2_with (at_builtin; refine wpl_append rfl _ _ 39 rfl rfl rfl run5 ?_)
      have k1 : Keep (fun b => b = g + 2 ∨ b = g + 1) w5 (w5.setCell ⟨g + 1 + 1, 1, none⟩ (.slice q5 m c5)) := Keep.set (Keep.refl _ w5) (p := ⟨g + 1 + 1, 1, none⟩) (.inl (.inl rfl)) _
      have b1 : Blk (w5.setCell ⟨g + 1 + 1, 1, none⟩ (.slice q5 m c5)) (g + 1) #[.slice none 0 0, .slice none 0 0] 41 := (Keep.set (X := fun b => b = g + 2) (Keep.refl _ w5) (p := ⟨g + 1 + 1, 1, none⟩) (.inl rfl) _).blk HF.out.2.1 (by omega)
      have kf := (k1.set (p := ⟨g + 1, 0, none⟩) (.inl (.inr rfl)) (.slice pq k pn)).set (p := ⟨g + 1, 1, none⟩) (.inl (.inr rfl)) (.slice q5 m c5)
      have bf : Blk (((w5.setCell ⟨g + 1 + 1, 1, none⟩ (.slice q5 m c5)).setCell ⟨g + 1, 0, none⟩ (.slice pq k pn)).setCell ⟨g + 1, 1, none⟩ (.slice q5 m c5)) (g + 1) #[.slice pq k pn, .slice q5 m c5] 41 := (b1.set 0 _).set 1 _
      generalize ((w5.setCell ⟨g + 1 + 1, 1, none⟩ (.slice q5 m c5)).setCell ⟨g + 1, 0, none⟩ (.slice pq k pn)).setCell ⟨g + 1, 1, none⟩ (.slice q5 m c5) = wf at *
      have hgs := HF.out.2.2.2.2.2.2.2.2.2.2
      have LP : LstAt pairW 58 wf g (.slice pq P.length pn) P := ((HF.out.2.2.2.2.1.keep kf (fun b h1 h2 e => by omega)).base (by omega)).lst
      have LY : LstAt strK 9 wf g (.slice q5 m c5) ((List.range m).map dx) := ((HF.out.2.2.1.keep kf (fun b h1 h2 e => by omega)).base (by omega)).lst
      have BF : Below g w wf := (HF.out.2.2.2.2.2.2.2.2.1.trans (HF.out.2.2.2.1.mono (by omega))).trans (kf.below (by have := HF.out.2.2.2.1.size; omega) (fun b e => by omega))
      refine bodyPost_ret (results_cell_row Tryz.results12 _ wf (g + 1) 41 #[.slice pq k pn, .slice q5 m c5] (0, 0) _ rfl bf Tryz.underlying41 rfl (by kernel_rfl)) rfl ⟨pq, q5, pn, c5, P, (List.range m).map dx, ?_, by rw [hgw]; exact LP, by rw [hgw, HF.out.2.2.2.2.2.2.2.1]; exact LY, ?_, by rw [hgw]; exact BF⟩
      · rw [HF.out.2.2.2.2.2.2.2.1, HF.out.2.2.2.2.2.2.2.2.2.1]
      · rw [HF.out.2.2.2.2.2.1, HF.out.2.2.2.2.2.2.1]
end Go.Proofs.YtbjbjgfjaopibaaGreatDoor
end
