/- The document's Copy of a transaction. -/
import Derived.Test.YtppcccocnmhbgaaOwn
import Derived.Test.YtppcccocnmhbgaaEncP
import Derived.Test.YtppcccocnmhbgaaTwo
namespace Go.Proofs.Ytppcccocnmhbgaa
open Go Go.RowKit
set_option linter.unusedSimpArgs false
set_option linter.unusedVariables false
set_option maxRecDepth 100000

theorem wpl_buildSliceO {P : Program} {w w' : World} {ops : Array Oper} {rest : List Oper} {o : Oper} {a : Act} {Q : Exit → Act → World → Prop} (hgd : o.guard = none) (t : TypeId) (n : Nat) (parts : Array (Nat × Operand)) {ps : Array (Nat × Value)} {v : Value} (ho : o.op = .buildSlice t n parts)
    (hp : (parts.map fun (i, x) => (i, a.eval x)) = ps) (hrun : (Instr.buildSlice t n ps).run P w = .ok v w') (h : wpList P ops Q rest (a.put o.dst v) w') : wpList P ops Q (o :: rest) a w := by
  refine wpList_plain hgd fun K hK' => ?_
  have e : execOp a.eval o = (do return .value (← Instr.buildSlice t n ps)) := by unfold execOp; rw [ho, ← hp]
  unfold Oper.wp
  rw [e]
  simp only [Sem.run_bind, hrun, Result.andThen_ok, Sem.run_pure]
  exact hK' _ _ h
abbrev inz : Array Value := #[.int .u8 0, .int .u8 0, .int .u8 0, .int .u8 0, .int .u8 0, .int .u8 0, .int .u8 0, .int .u8 0, .int .u8 0, .int .u8 0, .int .u8 0, .int .u8 0, .int .u8 0, .int .u8 0, .int .u8 0, .int .u8 0, .int .u8 0, .int .u8 0, .int .u8 0, .int .u8 0, .int .u8 0, .int .u8 0, .int .u8 0, .int .u8 0, .int .u8 0, .int .u8 0, .int .u8 0, .int .u8 0, .int .u8 0, .int .u8 0, .int .u8 0, .int .u8 0, .int .u32 0, .slice none 0 0, .int .u32 0, .slice none 0 0]
def in0 : InD := ⟨0, 0, rwNil, 0, ⟨none, 0, 0, fun _ => rwNil⟩⟩
def out0 : OutD := ⟨0, rwNil⟩
theorem inInfo : (Try.prog.info? 113).map (·.size) = some 36 := by kernel_rfl
/-- bytes put behind nothing: a copy -/
theorem copy_row (r : RwD) (w : World) (hr : RwOk 1048576 w r) :
    ∃ s w', (Builtin.append_ #[26, 26] 26 #[.slice (some ⟨w.heap.size, 0, none⟩) 0 0, r.cell]).run Try.prog (w.alloc (.cells #[] 5)) = .ok (RwD.cell s) w' ∧ rwEq r s ∧ rwK.at' (fun b => w.heap.size ≤ b ∧ b < w'.heap.size) w' s ∧ Below w.heap.size w w' := by
  obtain ⟨i0, hi, hz0, hz1, hz2⟩ := info_parts u8inf
  have ka := (Below.refl w.heap.size w).alloc (Nat.le_refl _) (.cells #[] 5)
  obtain ⟨v2, w2, o2, run2, R2, ho2, k2⟩ := row_appendL (P := Try.prog) 26 26 i0 (.int .u8 0) Try.underlying26 hi hz0 hz1 hz2 rfl (row_empty (w.alloc (.cells #[] 5)) w.heap.size (Blk.new _ _ _)) (p := r.a) (c := r.c) (ys := r.z) (hr.1.below ka).bytes (by have := hr.2; simp; omega)
  have hst := own_step rfl ka (fun g hg => by cases hg; exact Nat.le_refl _) ho2 k2
  rw [List.nil_append] at R2
  obtain ⟨p, c, rfl, _⟩ := R2.form
  obtain ⟨hro, hp⟩ := rowOf_clone R2 hr.1.len hr.1.range
  exact ⟨⟨p, c, r.z⟩, w2, run2, rfl, ⟨⟨hro, hr.2⟩, fun q hq => ⟨hst.1 _ (hp q hq), R2.lt _ (hp q hq)⟩⟩, hst.2⟩
theorem inCs_33 (x : InD) (s : RwD) : (inCs x).set 33 s.cell = inCs { x with script := s } := by
  unfold inCs
  rw [List.set_append, if_neg (by rw [hls_length]; decide), hls_length]; rfl
theorem inCs_35 (x : InD) (s : SlD RwD) : (inCs x).set 35 s.cell = inCs { x with wit := s } := by
  unfold inCs
  rw [List.set_append, if_neg (by rw [hls_length]; decide), hls_length]; rfl
theorem inCs_at33 (x : InD) : (inCs x)[33]? = some x.script.cell := by
  unfold inCs; rw [List.getElem?_append_right (by rw [hls_length]; decide), hls_length]; rfl
theorem inCs_at35 (x : InD) : (inCs x)[35]? = some x.wit.cell := by
  unfold inCs; rw [List.getElem?_append_right (by rw [hls_length]; decide), hls_length]; rfl
theorem info_of {P : Program} {e : TypeId} {k by1 : Nat} (h : (P.info? e).map (fun i => (i.zero.map fun z => z.cells.size, i.size, i.bytes)) = some (some k, k, by1)) : ∃ i z, P.info? e = some i ∧ i.zero = some z ∧ i.size = k ∧ i.bytes = by1 ∧ z.cells.size = k := by
  cases hi : P.info? e with
  | none => rw [hi] at h; cases h
  | some i =>
    rw [hi] at h
    have h1 := congrArg (fun o => o.map (·.1)) h
    have h2 := congrArg (fun o => o.map (·.2.1)) h
    have h3 := congrArg (fun o => o.map (·.2.2)) h
    simp only [Option.map_some, Option.some.injEq] at h1 h2 h3
    cases hz : i.zero with
    | none => rw [hz] at h1; cases h1
    | some z =>
      rw [hz] at h1
      simp only [Option.map_some, Option.some.injEq] at h1
      exact ⟨i, z, rfl, hz, h2, h3, h1⟩
theorem inInf3 : (Try.prog.info? 113).map (fun i => (i.zero.map fun z => z.cells.size, i.size, i.bytes)) = some (some 36, 36, 96) := by kernel_rfl
theorem outInf3 : (Try.prog.info? 83).map (fun i => (i.zero.map fun z => z.cells.size, i.size, i.bytes)) = some (some 2, 2, 32) := by kernel_rfl
theorem rowInf3 : (Try.prog.info? 26).map (fun i => (i.zero.map fun z => z.cells.size, i.size, i.bytes)) = some (some 1, 1, 24) := by kernel_rfl
theorem arr_one {l : List Value} (h : ∀ u ∈ l, u.oneCell' = true) : l.toArray.all (·.oneCell') = true := by
  rw [Array.all_eq_true]; intro i hi
  exact h _ (by simp)
theorem cells_range {w : World} {b o : Nat} {cs : List Value} (h : CellsAt w b o cs) : w.rangeAt b o cs := fun j v hv => (h j (List.getElem?_eq_some_iff.1 hv).1).trans hv
theorem buildIn (x : InD) (w : World) : (Instr.buildSlice 77 1 #[(0, .agg (inCs x).toArray)]).run Try.prog w = .ok (.slice (some ⟨w.heap.size, 0, none⟩) 1 1) (w.alloc (.cells (inCs x).toArray 113)) := by kernel_rfl
set_option maxHeartbeats 6400000 in
theorem rcopy_tx (x : TxD) (w : World) (hx : TxOk 1048576 w x) : Calls Try.prog 45 #[.agg (txCs x).toArray] w fun e w' => ∃ y, e = .returned (.agg (txCs y).toArray) ∧ txEq x y ∧ txK.at' (fun b => w.heap.size ≤ b ∧ b < w'.heap.size) w' y ∧ Below w.heap.size w w' := by
  obtain ⟨ver, ⟨ia, n, ic, ix⟩, ⟨oa, m, oc, ox⟩, lock⟩ := x
  have hn : n ≤ 1048576 := hx.2.1.2.1.1
  have hm : m ≤ 1048576 := hx.2.2.1.2.1.1
  have L := two_blocks w #[.int .u32 ver, .slice ia n ic, .slice oa m oc, .int .u32 lock] #[.int .u32 0, .slice none 0 0, .slice none 0 0, .int .u32 0] 80 80
  have HX := Lib.hid hx
  clear hx
  change Calls Try.prog 45 #[.agg #[.int .u32 ver, .slice ia n ic, .slice oa m oc, .int .u32 lock]] w _
  have hs2 : ((w.alloc (.cells #[.int .u32 ver, .slice ia n ic, .slice oa m oc, .int .u32 lock] 80)).alloc (.cells #[.int .u32 0, .slice none 0 0, .slice none 0 0, .int .u32 0] 80)).heap.size = w.heap.size + 2 := by simp
  have c1 := L.1.cell 1
  have HL := Lib.hid (And.intro L hs2)
  clear L hs2
  go_enter Try.func45, Try.ntmps45
  go_upto_region 2 with fail
  generalize (w.alloc (.cells #[.int .u32 ver, .slice ia n ic, .slice oa m oc, .int .u32 lock] 80)).alloc (.cells #[.int .u32 0, .slice none 0 0, .slice none 0 0, .int .u32 0] 80) = w0 at *
  generalize hgw : w.heap.size = g at *
  change w0.cell? ⟨g, 1, none⟩ = some (.slice ia n ic) at c1
  go_wp2
  go_loopg [3, 15] n (fun gh v i wx => ∃ (k : Nat) (X : List InD), k ≤ n ∧ i = .int .i64 (k : Int) ∧ gh = n - k ∧ Hid (X.length = k ∧ (∀ j, j < k → inEq (ix j) (X.getD j in0)) ∧ LstAt inK 113 wx w0.heap.size v X ∧ Below w0.heap.size w0 wx))
  case atStart => exact ⟨0, [], Nat.zero_le _, rfl, rfl, rfl, fun j hj => absurd hj (Nat.not_lt_zero j), LstAt.nil _ _ _ _, Below.refl _ _⟩
  case round =>
    obtain ⟨k, X, hk, rfl, hg, HK⟩ := hrel
    have HG := Lib.hid hg
    clear hg
    obtain ⟨wo, hwo⟩ : ∃ wo, wo = wr := ⟨_, rfl⟩
    subst hwo
    have KW := Lib.hid (HL.out.1.2.2.trans (HK.out.2.2.2.mono (by have := HL.out.2; omega)))
    by_cases hlt : k < n
    · obtain ⟨b, o, hia, hcl, hca, hok⟩ := HX.out.2.1.2.2.2 k hlt
      change ia = some ⟨b, o, none⟩ at hia
      subst hia
      obtain ⟨xi, hxi⟩ : ∃ xi, xi = ix k := ⟨_, rfl⟩
      change (inCs (ix k)).length = 36 at hcl
      change CellsAt w b (o + k * 36) (inCs (ix k)) at hca
      change InOk 1048576 w (ix k) at hok
      rw [← hxi] at hca hok hcl
      have hra := cells_range (hca.below (by rw [hgw]; exact KW.out))
      have HOK := Lib.hid (InOk.below (by rw [hgw]; exact KW.out) hok)
      have HXI := Lib.hid hxi
      obtain ⟨xid, xidx, ⟨sa, sc, sz⟩, xseq, ⟨wa, wn, wc, wxs⟩⟩ := xi
      have hwn : wn ≤ 1048576 := hok.2.2.2.2.2.1.1
      have bz := Blk.new wo inz 113
      have kz := (Below.refl wo.heap.size wo).alloc (Nat.le_refl _) (.cells inz 113)
      obtain ⟨IC, hIC⟩ : ∃ IC, IC = inCs ⟨xid, xidx, ⟨sa, sc, sz⟩, xseq, ⟨wa, wn, wc, wxs⟩⟩ := ⟨_, rfl⟩
      rw [← hIC] at hra hcl
      have hisz : IC.toArray.size = 36 := by rw [List.size_toArray]; exact hcl
      have hone : IC.toArray.all (·.oneCell') = true := arr_one (by rw [hIC]; exact inK.one _)
      have bx := bz.setAll IC.toArray (by rw [hisz]; rfl)
      have kx := below_setCells (B := wo.heap.size) (g := wo.heap.size) (Nat.le_refl _) IC.toArray.toList 0 (wo.alloc (.cells inz 113)) kz
      have HIC := Lib.hid hIC
      clear hca hok hxi kz hIC
      go_upto_region 5 with (first | (refine wpList_load_mid rfl 113 (.tmp 17) rfl b (o + k * 36) rfl IC _ hra Try.underlying113 rfl (by rw [hcl]; exact inInfo) ?_) | (refine wpl_store rfl 113 (.tmp 5) (.tmp 18) rfl rfl rfl bz (by rw [hisz]; rfl) (by rw [hisz]; exact inInfo) hone ?_))
      clear bz hra hone hisz
      rw [List.toList_toArray] at kx bx
      change Blk ((wo.alloc (.cells inz 113)).setCells wo.heap.size 0 IC) wo.heap.size IC.toArray 113 at bx
      generalize (wo.alloc (.cells inz 113)).setCells wo.heap.size 0 IC = w4 at *
      generalize hgx : wo.heap.size = gx at *
      have c33 : w4.cell? ⟨gx, 33, none⟩ = some (.slice sa sz.length sc) := by rw [bx.cell, List.getElem?_toArray, HIC.out]; exact inCs_at33 _
      have hb4 : Below wo.heap.size wo w4 := by rw [hgx]; exact kx
      have hlx := bx.lt
      obtain ⟨⟨ra, rc, rz⟩, w5, run5, hz5, hat5, hb5⟩ := copy_row ⟨sa, sc, sz⟩ w4 (HOK.out.2.2.1.below hb4)
      change (Builtin.append_ #[26, 26] 26 #[.slice (some ⟨w4.heap.size, 0, none⟩) 0 0, .slice sa sz.length sc]).run Try.prog (w4.alloc (.cells #[] 5)) = .ok (.slice ra rz.length rc) w5 at run5
      have bx5 := bx.beyond hb5
      have c33' := bx5.cell 33
      rw [List.getElem?_toArray, HIC.out, inCs_at33] at c33'
      change w5.cell? ⟨gx, 33, none⟩ = some (.slice sa sz.length sc) at c33'
      have f33 := bx5.free 33
      have bx6 := bx5.set 33 (.slice ra rz.length rc)
      have e33 := inCs_33 ⟨xid, xidx, ⟨sa, sc, sz⟩, xseq, ⟨wa, wn, wc, wxs⟩⟩ ⟨ra, rc, rz⟩
      rw [List.setIfInBounds_toArray, HIC.out, show (Value.slice ra rz.length rc) = RwD.cell ⟨ra, rc, rz⟩ from rfl, e33] at bx6
      change Blk (w5.setCell ⟨gx, 33, none⟩ (.slice ra rz.length rc)) gx _ _ at bx6
      have hb5w : Below wo.heap.size wo w5 := hb4.trans (hb5.mono hb4.size)
      have hb6 := hb5w.setCell (p := ⟨gx, 33, none⟩) (by rw [hgx]; exact Nat.le_refl _) (.slice ra rz.length rc)
      have hat6 := rwK.keep hat5 (Keep.set (X := fun k => k = gx) (Keep.refl _ w5) (p := ⟨gx, 33, none⟩) (.inl rfl) (.slice ra rz.length rc)) (fun b hb e => by rw [e] at hb; have := hb.1; omega)
      have hs6 : (w5.setCell ⟨gx, 33, none⟩ (.slice ra rz.length rc)).heap.size = w5.heap.size := by simp [World.setCell]
      have H5 := Lib.hid (And.intro hz5 (And.intro hat6 (And.intro hb6 (And.intro bx6 (And.intro hb4.size (And.intro hb5.size hs6))))))
      clear hs6 hz5 hat5 hat6 hb5 hb4 hb5w hb6 bx bx5 bx6 e33 kx
      go_upto_region 6 with (at_builtin; refine wpl_append rfl _ _ 26 rfl rfl rfl run5 ?_)
      generalize w5.setCell ⟨gx, 33, none⟩ (.slice ra rz.length rc) = w6 at *
      have hb6 := H5.out.2.2.1
      have c35 : w6.cell? ⟨gx, 35, none⟩ = some (.slice wa wn wc) := by rw [H5.out.2.2.2.1.cell, List.getElem?_toArray]; exact inCs_at35 _
      have hlx6 := H5.out.2.2.2.1.lt
      clear c33 c33' f33 run5
      go_wp2
      go_loopg [6, 27] wn (fun gh v i wx => ∃ (j : Nat) (Y : List RwD), j ≤ wn ∧ i = .int .i64 (j : Int) ∧ gh = wn - j ∧ Hid (Y.length = j ∧ (∀ t, t < j → rwEq (wxs t) (Y.getD t rwNil)) ∧ LstAt rwK 26 wx w6.heap.size v Y ∧ Below w6.heap.size w6 wx))
      case atStart => exact ⟨0, [], Nat.zero_le _, rfl, rfl, rfl, fun j hj => absurd hj (Nat.not_lt_zero j), LstAt.nil _ _ _ _, Below.refl _ _⟩
      case round =>
        obtain ⟨j, Y, hj, rfl, hg, HJ⟩ := hrel
        have HG2 := Lib.hid hg
        clear hg
        have hwr := H5.out.2.2.1.trans (HJ.out.2.2.2.mono (by rw [hgx]; omega))
        have hsz6 := HJ.out.2.2.2.size
        by_cases hjl : j < wn
        · obtain ⟨b2, o2, hwa, _, hcw, hokw⟩ := HOK.out.2.2.2.2.2.2.2 j hjl
          change wa = some ⟨b2, o2, none⟩ at hwa
          subst hwa
          change CellsAt wo b2 (o2 + j * 1) [(wxs j).cell] at hcw
          change RwOk 1048576 wo (wxs j) at hokw
          have cj := (hcw.below hwr) 0 (by simp)
          have hokr := hokw.below hwr
          obtain ⟨xr, hxr⟩ : ∃ xr, xr = wxs j := ⟨_, rfl⟩
          rw [← hxr] at cj hokr
          have HXR := Lib.hid hxr
          obtain ⟨qa, qc, qz⟩ := xr
          change wr.cell? ⟨b2, o2 + j * 1 + 0, none⟩ = some (.slice qa qz.length qc) at cj
          rw [Nat.mul_one, Nat.add_zero] at cj
          obtain ⟨⟨ya, yc, yz⟩, w7, run7, hz7, hat7, hb7⟩ := copy_row ⟨qa, qc, qz⟩ wr hokr
          change (Builtin.append_ #[26, 26] 26 #[.slice (some ⟨wr.heap.size, 0, none⟩) 0 0, .slice qa qz.length qc]).run Try.prog (wr.alloc (.cells #[] 5)) = .ok (.slice ya yz.length yc) w7 at run7
          obtain ⟨i1, z1, f1, f2, f3, f4, f5⟩ := info_of rowInf3
          have hyl : Y.length ≤ 1048576 := by have := HJ.out.1; omega
          obtain ⟨q8, n8, v8, w8, hv8, run8, hL8, hb8⟩ := HJ.out.2.2.1.add 24 Try.underlying24 f1 f2 f3 f4 f5 (by decide) hb7 hsz6 hat7 (by unfold maxLen; omega) (by omega)
          subst hv8
          change (Builtin.append_ #[24, 24] 24 #[.slice q8 Y.length n8, .slice (some ⟨w7.heap.size, 0, none⟩) 1 1]).run Try.prog (w7.alloc (.cells #[.slice ya yz.length yc] 26)) = .ok v8 w8 at run8
          have H8 := Lib.hid (And.intro hz7 (And.intro hL8 (HJ.out.2.2.2.trans ((hb7.mono hsz6).trans hb8))))
          clear hz7 hat7 hb7 hL8 hb8 hcw hokw hxr f1 f2 f3 f4 f5 hokr
          go_wp2_with (first | (at_builtin; refine wpl_append rfl _ _ 26 rfl rfl rfl run7 ?_) | (at_builtin; refine wpl_append rfl _ _ 24 rfl rfl rfl run8 ?_))
          go_roundg (wn - (j + 1))
          case measure => rw [HG2.out]; omega
          case rel =>
            refine ⟨j + 1, Y ++ [⟨ya, yc, yz⟩], hjl, rfl, rfl, by rw [List.length_append, HJ.out.1]; rfl, fun t ht => ?_, H8.out.2.1, H8.out.2.2⟩
            rcases Nat.lt_or_ge t j with h | h
            · rw [List.getD_eq_getElem?_getD, List.getElem?_append_left (by rw [HJ.out.1]; exact h), ← List.getD_eq_getElem?_getD]; exact HJ.out.2.1 t h
            · obtain rfl : t = j := by omega
              rw [List.getD_eq_getElem?_getD, List.getElem?_append_right (by rw [HJ.out.1]; exact Nat.le_refl _), HJ.out.1, Nat.sub_self, ← HXR.out]
              exact H8.out.1
        · obtain rfl : j = wn := by omega
          obtain ⟨⟨la, ln, lc, lx⟩, hv, hsn, hsx, hsat⟩ := HJ.out.2.2.1.sl rwNil (by rw [HJ.out.1]; exact hwn)
          change _ = Value.slice la ln lc at hv
          change ln = _ at hsn
          change ∀ i, i < Y.length → lx i = _ at hsx
          subst hv
          have hgr : gx < wr.heap.size := by omega
          have bxr := H5.out.2.2.2.1.beyond HJ.out.2.2.2
          have c35' : wr.cell? ⟨gx, 35, none⟩ = some (.slice wa j wc) := by rw [bxr.cell, List.getElem?_toArray]; exact inCs_at35 _
          have f35 := bxr.free 35
          have b9 := bxr.set 35 (.slice la ln lc)
          have e35 := inCs_35 ⟨xid, xidx, ⟨ra, rc, rz⟩, xseq, ⟨wa, j, wc, wxs⟩⟩ ⟨la, ln, lc, lx⟩
          change (inCs ⟨xid, xidx, ⟨ra, rc, rz⟩, xseq, ⟨wa, j, wc, wxs⟩⟩).set 35 (.slice la ln lc) = _ at e35
          rw [List.setIfInBounds_toArray, e35] at b9
          have k9 : Keep (fun k => k = gx) wr (wr.setCell ⟨gx, 35, none⟩ (.slice la ln lc)) := Keep.set (X := fun k => k = gx) (Keep.refl _ wr) (p := ⟨gx, 35, none⟩) (.inl rfl) _
          have hs9 : (wr.setCell ⟨gx, 35, none⟩ (.slice la ln lc)).heap.size = wr.heap.size := by simp [World.setCell]
          have hb9 : Below wo.heap.size wo (wr.setCell ⟨gx, 35, none⟩ (.slice la ln lc)) := hwr.setCell (by rw [hgx]; exact Nat.le_refl _) _
          have hs6 := H5.out.2.2.2.2.2.2
          have hs45 := H5.out.2.2.2.2.1
          have hy : inK.at' (fun b => wo.heap.size ≤ b ∧ b < (wr.setCell ⟨gx, 35, none⟩ (.slice la ln lc)).heap.size) (wr.setCell ⟨gx, 35, none⟩ (.slice la ln lc)) ⟨xid, xidx, ⟨ra, rc, rz⟩, xseq, ⟨la, ln, lc, lx⟩⟩ := by
            refine ⟨HOK.out.1, HOK.out.2.1, ?_, HOK.out.2.2.2.1, ?_⟩
            · refine rwK.mono (rwK.keep (rwK.keep H5.out.2.1 (Keep.of_below (X := fun _ => False) HJ.out.2.2.2) (fun _ _ h => h)) k9 (fun b hb e => ?_)) (fun b hb => ⟨by omega, by rw [hs9]; omega⟩)
              rw [e] at hb; omega
            · refine (hsat.keep k9 (fun b hb e => ?_)).mono (fun b hb => ⟨by omega, by rw [hs9]; omega⟩)
              rw [e] at hb; omega
          have heq : inEq (ix k) ⟨xid, xidx, ⟨ra, rc, rz⟩, xseq, ⟨la, ln, lc, lx⟩⟩ := by
            rw [← HXI.out]
            refine ⟨rfl, rfl, H5.out.1, rfl, by show j = ln; rw [hsn, HJ.out.1], fun t ht => ?_⟩
            show rwEq (wxs t) (lx t)
            rw [hsx t (by rw [HJ.out.1]; exact ht)]
            exact HJ.out.2.1 t ht
          obtain ⟨i1, z1, f1, f2, f3, f4, f5⟩ := info_of inInf3
          have hxl : X.length ≤ 1048576 := by have := HK.out.1; omega
          obtain ⟨q8, n8, v8, w8, hv8, run8, hL8, hb8⟩ := HK.out.2.2.1.add 77 Try.underlying77 f1 f2 f3 f4 f5 (by decide) hb9 HK.out.2.2.2.size hy (by unfold maxLen; omega) (by omega)
          subst hv8
          have H8 := Lib.hid (And.intro heq (And.intro hL8 (HK.out.2.2.2.trans ((hb9.mono HK.out.2.2.2.size).trans hb8))))
          change (Builtin.append_ #[77, 77] 77 #[.slice q8 X.length n8, .slice (some ⟨(wr.setCell ⟨gx, 35, none⟩ (.slice la ln lc)).heap.size, 0, none⟩) 1 1]).run Try.prog ((wr.setCell ⟨gx, 35, none⟩ (.slice la ln lc)).alloc (.cells (inCs ⟨xid, xidx, ⟨ra, rc, rz⟩, xseq, ⟨la, ln, lc, lx⟩⟩).toArray 113)) = .ok v8 w8 at run8
          have hbs := buildIn ⟨xid, xidx, ⟨ra, rc, rz⟩, xseq, ⟨la, ln, lc, lx⟩⟩ (wr.setCell ⟨gx, 35, none⟩ (.slice la ln lc))
          have hr9 := cells_range (w := wr.setCell ⟨gx, 35, none⟩ (.slice la ln lc)) (b := gx) (o := 0) (cs := inCs ⟨xid, xidx, ⟨ra, rc, rz⟩, xseq, ⟨la, ln, lc, lx⟩⟩) (fun t ht => by rw [Nat.zero_add, b9.cell, List.getElem?_toArray])
          have hl9 : (inCs ⟨xid, xidx, ⟨ra, rc, rz⟩, xseq, ⟨la, ln, lc, lx⟩⟩).length = 36 := inK.len _
          clear hsat hsx hsn hgr bxr b9 e35 k9 hb9 hs6 hs45 hy heq f1 f2 f3 f4 f5 hL8 hb8 hxl
          generalize inCs ⟨xid, xidx, ⟨ra, rc, rz⟩, xseq, ⟨la, ln, lc, lx⟩⟩ = IC9 at *
          go_upto_region 13 with fail
          generalize wr.setCell ⟨gx, 35, none⟩ (.slice la ln lc) = w9 at *
          go_wp2_with (first | (refine wpList_load_mid rfl 113 (.tmp 5) rfl gx 0 rfl IC9 _ hr9 Try.underlying113 rfl (by rw [hl9]; exact inInfo) ?_) | (refine wpl_buildSliceO (ps := #[(0, .agg IC9.toArray)]) rfl 77 1 #[(0, .tmp 41)] rfl (by simp [Act.put, Act.eval]) hbs ?_) | (at_builtin; refine wpl_append rfl _ _ 77 rfl rfl rfl run8 ?_))
          go_roundg (n - (k + 1))
          case measure => rw [HG.out]; omega
          case rel =>
            refine ⟨k + 1, X ++ [_], hlt, rfl, rfl, by rw [List.length_append, HK.out.1]; rfl, fun t ht => ?_, H8.out.2.1, H8.out.2.2⟩
            rcases Nat.lt_or_ge t k with h | h
            · rw [List.getD_eq_getElem?_getD, List.getElem?_append_left (by rw [HK.out.1]; exact h), ← List.getD_eq_getElem?_getD]; exact HK.out.2.1 t h
            · obtain rfl : t = k := by omega
              rw [List.getD_eq_getElem?_getD, List.getElem?_append_right (by rw [HK.out.1]; exact Nat.le_refl _), HK.out.1, Nat.sub_self]
              exact H8.out.1
    · obtain rfl : k = n := by omega
      obtain ⟨⟨la, ln, lc, lx⟩, hv, hsn, hsx, hsat⟩ := HK.out.2.2.1.sl in0 (by rw [HK.out.1]; exact hn)
      change _ = Value.slice la ln lc at hv
      change ln = _ at hsn
      change ∀ i, i < X.length → lx i = _ at hsx
      subst hv
      have hins : slEq inEq ⟨ia, k, ic, ix⟩ ⟨la, ln, lc, lx⟩ := ⟨by show k = ln; rw [hsn, HK.out.1], fun t ht => by
        show inEq (ix t) (lx t)
        rw [hsx t (by rw [HK.out.1]; exact ht)]
        exact HK.out.2.1 t ht⟩
      have hsz0 := HK.out.2.2.2.size
      have bg1 := HL.out.1.1.beyond HK.out.2.2.2
      have bg2 := HL.out.1.2.1.beyond HK.out.2.2.2
      have c2 : wo.cell? ⟨g, 2, none⟩ = some (.slice oa m oc) := bg1.cell 2
      have hgl : g + 2 ≤ wo.heap.size := by have := HL.out.2; omega
      have HI := Lib.hid (And.intro hins (And.intro hsat (And.intro bg1 bg2)))
      clear hins hsat bg1 bg2 hsx hsn
      go_wp2
      go_loopg [9, 48] m (fun gh v i wx => ∃ (q : Nat) (Y : List OutD), q ≤ m ∧ i = .int .i64 (q : Int) ∧ gh = m - q ∧ Hid (Y.length = q ∧ (∀ t, t < q → outEq (ox t) (Y.getD t out0)) ∧ LstAt outK 83 wx wo.heap.size v Y ∧ Below wo.heap.size wo wx))
      case atStart => exact ⟨0, [], Nat.zero_le _, rfl, rfl, rfl, fun j hj => absurd hj (Nat.not_lt_zero j), LstAt.nil _ _ _ _, Below.refl _ _⟩
      case round =>
        obtain ⟨q, Y, hq, rfl, hg, HJ⟩ := hrel
        have HG2 := Lib.hid hg
        clear hg
        have hwr := KW.out.trans (HJ.out.2.2.2.mono (by omega))
        have hszo := HJ.out.2.2.2.size
        by_cases hql : q < m
        · obtain ⟨b, o, hoa, _, hca, hok⟩ := HX.out.2.2.1.2.2.2 q hql
          change oa = some ⟨b, o, none⟩ at hoa
          subst hoa
          change CellsAt w b (o + q * 2) (outCs (ox q)) at hca
          change OutOk 1048576 w (ox q) at hok
          obtain ⟨xo, hxo⟩ : ∃ xo, xo = ox q := ⟨_, rfl⟩
          rw [← hxo] at hca hok
          have HXO := Lib.hid hxo
          obtain ⟨xv, ⟨sa, sc, sz⟩⟩ := xo
          have hcr := hca.below (w' := wr) (by rw [hgw]; exact hwr)
          have t0 := hcr 0 (by simp [outCs])
          have t1 := hcr 1 (by simp [outCs])
          change wr.cell? ⟨b, o + q * 2, none⟩ = some (.int .i64 xv) at t0
          change wr.cell? ⟨b, o + q * 2 + 1, none⟩ = some (.slice sa sz.length sc) at t1
          have HOK := Lib.hid (OutOk.below (w' := wr) (by rw [hgw]; exact hwr) hok)
          have bx := Blk.new wr #[.int .i64 xv, .slice sa sz.length sc] 83
          have kx := (Below.refl wr.heap.size wr).alloc (Nat.le_refl _) (.cells #[.int .i64 xv, .slice sa sz.length sc] 83)
          clear hca hok hxo hcr
          go_upto_region 19 with fail
          generalize wr.alloc (.cells #[.int .i64 xv, .slice sa sz.length sc] 83) = w4 at *
          generalize hgx : wr.heap.size = gx at *
          have c1x : w4.cell? ⟨gx, 1, none⟩ = some (.slice sa sz.length sc) := bx.cell 1
          have hb4 : Below wr.heap.size wr w4 := by rw [hgx]; exact kx
          have hlx := bx.lt
          obtain ⟨⟨ra, rc, rz⟩, w5, run5, hz5, hat5, hb5⟩ := copy_row ⟨sa, sc, sz⟩ w4 (HOK.out.1.below hb4)
          change (Builtin.append_ #[26, 26] 26 #[.slice (some ⟨w4.heap.size, 0, none⟩) 0 0, .slice sa sz.length sc]).run Try.prog (w4.alloc (.cells #[] 5)) = .ok (.slice ra rz.length rc) w5 at run5
          have bx5 := bx.beyond hb5
          have c1' : w5.cell? ⟨gx, 1, none⟩ = some (.slice sa sz.length sc) := bx5.cell 1
          have f1' := bx5.free 1
          have bx6 : Blk (w5.setCell ⟨gx, 1, none⟩ (.slice ra rz.length rc)) gx #[.int .i64 xv, .slice ra rz.length rc] 83 := bx5.set 1 (.slice ra rz.length rc)
          have hb6 : Below wr.heap.size wr (w5.setCell ⟨gx, 1, none⟩ (.slice ra rz.length rc)) := (hb4.trans (hb5.mono hb4.size)).setCell (p := ⟨gx, 1, none⟩) (by rw [hgx]; exact Nat.le_refl _) _
          have hs6 : (w5.setCell ⟨gx, 1, none⟩ (.slice ra rz.length rc)).heap.size = w5.heap.size := by simp [World.setCell]
          have hat6 := rwK.keep hat5 (Keep.set (X := fun k => k = gx) (Keep.refl _ w5) (p := ⟨gx, 1, none⟩) (.inl rfl) (.slice ra rz.length rc)) (fun b hb e => by rw [e] at hb; have := hb.1; omega)
          have hs4 := hb4.size
          have hy : outK.at' (fun b => wr.heap.size ≤ b ∧ b < (w5.setCell ⟨gx, 1, none⟩ (.slice ra rz.length rc)).heap.size) (w5.setCell ⟨gx, 1, none⟩ (.slice ra rz.length rc)) ⟨xv, ⟨ra, rc, rz⟩⟩ := ⟨rwK.mono hat6 (fun b hb => ⟨by omega, by rw [hs6]; exact hb.2⟩), HOK.out.2⟩
          have heq : outEq (ox q) ⟨xv, ⟨ra, rc, rz⟩⟩ := by rw [← HXO.out]; exact ⟨rfl, hz5⟩
          obtain ⟨i1, z1, f1, f2, f3, f4, f5⟩ := info_of outInf3
          have hyl : Y.length ≤ 1048576 := by have := HJ.out.1; omega
          obtain ⟨q8, n8, v8, w8, hv8, run8, hL8, hb8⟩ := HJ.out.2.2.1.add 78 Try.underlying78 f1 f2 f3 f4 f5 (by decide) hb6 (by omega) hy (by unfold maxLen; omega) (by omega)
          subst hv8
          change (Builtin.append_ #[78, 78] 78 #[.slice q8 Y.length n8, .slice (some ⟨(w5.setCell ⟨gx, 1, none⟩ (.slice ra rz.length rc)).heap.size, 0, none⟩) 1 1]).run Try.prog ((w5.setCell ⟨gx, 1, none⟩ (.slice ra rz.length rc)).alloc (.cells #[.int .i64 xv, .slice ra rz.length rc] 83)) = .ok v8 w8 at run8
          have H8 := Lib.hid (And.intro heq (And.intro hL8 (HJ.out.2.2.2.trans ((hb6.mono (by omega)).trans hb8))))
          have c60 := bx6.cell 0
          have c61 := bx6.cell 1
          change (w5.setCell ⟨gx, 1, none⟩ (.slice ra rz.length rc)).cell? ⟨gx, 0, none⟩ = some (.int .i64 xv) at c60
          change (w5.setCell ⟨gx, 1, none⟩ (.slice ra rz.length rc)).cell? ⟨gx, 1, none⟩ = some (.slice ra rz.length rc) at c61
          clear hat5 hz5 hb5 hat6 hy heq f1 f2 f3 f4 f5 hL8 hb8 hyl bx bx5 bx6 hb4 hb6 kx t0 t1
          go_upto_region 20 with (at_builtin; refine wpl_append rfl _ _ 26 rfl rfl rfl run5 ?_)
          clear run5 c1x c1' f1' hs6
          generalize w5.setCell ⟨gx, 1, none⟩ (.slice ra rz.length rc) = w6 at *
          go_wp2_with (at_builtin; refine wpl_append rfl _ _ 78 rfl rfl rfl run8 ?_)
          go_roundg (m - (q + 1))
          case measure => rw [HG2.out]; omega
          case rel =>
            refine ⟨q + 1, Y ++ [_], hql, rfl, rfl, by rw [List.length_append, HJ.out.1]; rfl, fun t ht => ?_, H8.out.2.1, H8.out.2.2⟩
            rcases Nat.lt_or_ge t q with h | h
            · rw [List.getD_eq_getElem?_getD, List.getElem?_append_left (by rw [HJ.out.1]; exact h), ← List.getD_eq_getElem?_getD]; exact HJ.out.2.1 t h
            · obtain rfl : t = q := by omega
              rw [List.getD_eq_getElem?_getD, List.getElem?_append_right (by rw [HJ.out.1]; exact Nat.le_refl _), HJ.out.1, Nat.sub_self]
              exact H8.out.1
        · obtain rfl : q = m := by omega
          obtain ⟨⟨pa, pn, pc, px⟩, hv, hsn, hsx, hsat⟩ := HJ.out.2.2.1.sl out0 (by rw [HJ.out.1]; exact hm)
          change _ = Value.slice pa pn pc at hv
          change pn = _ at hsn
          change ∀ i, i < Y.length → px i = _ at hsx
          subst hv
          have houts : slEq outEq ⟨oa, q, oc, ox⟩ ⟨pa, pn, pc, px⟩ := ⟨by show q = pn; rw [hsn, HJ.out.1], fun t ht => by
            show outEq (ox t) (px t)
            rw [hsx t (by rw [HJ.out.1]; exact ht)]
            exact HJ.out.2.1 t ht⟩
          have bg1 := HI.out.2.2.1.beyond HJ.out.2.2.2
          have bg2 := HI.out.2.2.2.beyond HJ.out.2.2.2
          have cg0 : wr.cell? ⟨g, 0, none⟩ = some (.int .u32 ver) := bg1.cell 0
          have cg1 : wr.cell? ⟨g, 1, none⟩ = some (.slice ia k ic) := bg1.cell 1
          have cg2 : wr.cell? ⟨g, 2, none⟩ = some (.slice oa q oc) := bg1.cell 2
          have cg3 : wr.cell? ⟨g, 3, none⟩ = some (.int .u32 lock) := bg1.cell 3
          have fg := bg1.free
          have ch0 : wr.cell? ⟨g + 1, 0, none⟩ = some (.int .u32 0) := bg2.cell 0
          have ch1 : wr.cell? ⟨g + 1, 1, none⟩ = some (.slice none 0 0) := bg2.cell 1
          have ch2 : wr.cell? ⟨g + 1, 2, none⟩ = some (.slice none 0 0) := bg2.cell 2
          have ch3 : wr.cell? ⟨g + 1, 3, none⟩ = some (.int .u32 0) := bg2.cell 3
          have fh := bg2.free
          have HO := Lib.hid (And.intro houts (And.intro hsat bg2))
          clear houts hsat hsx hsn bg1 bg2
          go_wp2
          clear cg0 cg1 cg2 cg3 fg ch0 ch1 ch2 ch3 fh c1 c2
          have k2 : Keep (fun k => k = g) wr ((wr.setCell ⟨g, 1, none⟩ (.slice la ln lc)).setCell ⟨g, 2, none⟩ (.slice pa pn pc)) := ((Keep.refl (fun k => k = g) wr).set (p := ⟨g, 1, none⟩) (.inl rfl) _).set (p := ⟨g, 2, none⟩) (.inl rfl) _
          have bh := k2.blk HO.out.2.2 (by omega)
          have hbw : Below g w ((wr.setCell ⟨g, 1, none⟩ (.slice la ln lc)).setCell ⟨g, 2, none⟩ (.slice pa pn pc)) := (hwr.setCell (p := ⟨g, 1, none⟩) (Nat.le_refl _) _).setCell (p := ⟨g, 2, none⟩) (Nat.le_refl _) _
          have hszr : wr.heap.size = ((wr.setCell ⟨g, 1, none⟩ (.slice la ln lc)).setCell ⟨g, 2, none⟩ (.slice pa pn pc)).heap.size := by simp [World.setCell]
          generalize (wr.setCell ⟨g, 1, none⟩ (.slice la ln lc)).setCell ⟨g, 2, none⟩ (.slice pa pn pc) = wa at *
          have bf : Blk ((((wa.setCell ⟨g + 1, 0, none⟩ (.int .u32 ver)).setCell ⟨g + 1, 1, none⟩ (.slice la ln lc)).setCell ⟨g + 1, 2, none⟩ (.slice pa pn pc)).setCell ⟨g + 1, 3, none⟩ (.int .u32 lock)) (g + 1) #[.int .u32 ver, .slice la ln lc, .slice pa pn pc, .int .u32 lock] 80 := (((bh.set 0 _).set 1 _).set 2 _).set 3 _
          have kf : Keep (fun k => k = g + 1) wa ((((wa.setCell ⟨g + 1, 0, none⟩ (.int .u32 ver)).setCell ⟨g + 1, 1, none⟩ (.slice la ln lc)).setCell ⟨g + 1, 2, none⟩ (.slice pa pn pc)).setCell ⟨g + 1, 3, none⟩ (.int .u32 lock)) := ((((Keep.refl (fun k => k = g + 1) wa).set (p := ⟨g + 1, 0, none⟩) (.inl rfl) _).set (p := ⟨g + 1, 1, none⟩) (.inl rfl) _).set (p := ⟨g + 1, 2, none⟩) (.inl rfl) _).set (p := ⟨g + 1, 3, none⟩) (.inl rfl) _
          have hbf := hbw.trans (kf.below (B := g) (by rw [← hgw]; exact hbw.size) (fun k e => by rw [e]; omega))
          have hszf := kf.size
          generalize (((wa.setCell ⟨g + 1, 0, none⟩ (.int .u32 ver)).setCell ⟨g + 1, 1, none⟩ (.slice la ln lc)).setCell ⟨g + 1, 2, none⟩ (.slice pa pn pc)).setCell ⟨g + 1, 3, none⟩ (.int .u32 lock) = wf at *
          have hw0 := HL.out.2
          refine bodyPost_ret (results_cell_row Try.results45 _ wf (g + 1) 80 #[.int .u32 ver, .slice la ln lc, .slice pa pn pc, .int .u32 lock] (0, 0) _ rfl bf Try.underlying80 rfl (by kernel_rfl)) rfl ⟨⟨ver, ⟨la, ln, lc, lx⟩, ⟨pa, pn, pc, px⟩, lock⟩, rfl, ⟨rfl, HI.out.1, HO.out.1, rfl⟩, ⟨HX.out.1, ?_, ?_, HX.out.2.2.2⟩, by rw [hgw]; exact hbf⟩
          · refine ((((HI.out.2.1.keep (Keep.of_below (X := fun _ => False) HJ.out.2.2.2) (fun _ _ h => h)).keep k2 (fun b hb e => ?_)).keep kf (fun b hb e => ?_))).mono (fun b hb => ⟨by rw [hgw]; omega, by omega⟩)
            · rw [e] at hb; omega
            · rw [e] at hb; omega
          · refine ((HO.out.2.1.keep k2 (fun b hb e => ?_)).keep kf (fun b hb e => ?_)).mono (fun b hb => ⟨by rw [hgw]; omega, by omega⟩)
            · rw [e] at hb; omega
            · rw [e] at hb; omega
end Go.Proofs.Ytppcccocnmhbgaa
