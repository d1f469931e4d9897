/- SameBlock of what the statements share, at blocks that are the same. -/
import Derived.Test.YtppcccocnmhbgaaCopyT
import Derived.Test.YtppcccocnmhbgaaEqT
import Derived.Test.YtppcccocnmhbgaaTexts
namespace Go.Proofs.Ytppcccocnmhbgaa
open Go Go.RowKit
set_option linter.unusedSimpArgs false
set_option linter.unusedVariables false
set_option maxRecDepth 100000

set_option maxHeartbeats 3200000 in
/-- two outputs that are the same -/
theorem same_out (x y : OutD) (w : World) (hx : OutOk 1048576 w x) (hy : OutOk 1048576 w y) (hR : outEq x y) :
    Calls Try.prog 80 #[.agg (outCs x).toArray, .agg (outCs y).toArray] w fun e w' => e = .returned (.bool true) ∧ Below w.heap.size w w' := by
  obtain ⟨xv, ⟨xa, xc, xz⟩⟩ := x
  obtain ⟨yv, ⟨ya, yc, yz⟩⟩ := y
  obtain ⟨h1, h2⟩ := hR
  obtain rfl : xv = yv := h1
  obtain rfl : xz = yz := h2
  change Calls Try.prog 80 #[.agg #[.int .i64 xv, .slice xa xz.length xc], .agg #[.int .i64 xv, .slice ya xz.length yc]] w _
  have L := two_blocks w #[.int .i64 xv, .slice xa xz.length xc] #[.int .i64 xv, .slice ya xz.length yc] 83 83
  have bx := hx.1.1.below L.2.2
  have by' := hy.1.1.below L.2.2
  have PE := Try.bytes_Equal_all xa ya xz.length xc xz.length yc xz xz ((w.alloc (.cells #[.int .i64 xv, .slice xa xz.length xc] 83)).alloc (.cells #[.int .i64 xv, .slice ya xz.length yc] 83)) rfl rfl bx.bytes by'.bytes
  rw [beq_self_eq_true] at PE
  have PE := Lib.hid PE
  have HB := Lib.hid L.2.2
  clear hx hy L bx by'
  generalize xz.length = n at *
  have hq : (xv == xv) = true := beq_self_eq_true _
  go_enter Try.func80, Try.ntmps80
  go_wp2_with fail
  refine PE.out.mono ?_
  rintro e w' ⟨rfl, hw'⟩
  subst hw'
  go_wp2
  go_ret
  exact ⟨rfl, HB.out⟩
set_option maxHeartbeats 6400000 in
theorem eqf_out (a0 b0 : Option Addr) (n ca cb : Nat) (X Y : Nat → OutD) (w : World) (hX : ElemsIn w a0 n 2 outCs (OutOk 1048576) X) (hY : ElemsIn w b0 n 2 outCs (OutOk 1048576) Y) (hR : ∀ i, i < n → outEq (X i) (Y i)) (hn : n ≤ 1048576) :
    Calls Try.prog 79 #[.slice a0 n ca, .slice b0 n cb, .func (.func 80) #[] #[]] w fun e w' => e = .returned (.bool true) ∧ Below w.heap.size w w' := by
  have HR := Lib.hid (And.intro hX (And.intro hY hR))
  clear hX hY hR
  have hne : ((n : Int) != (n : Int)) = false := bne_self_eq_false _
  go_enter Try.func79, Try.ntmps79
  go_wp2
  go_loopg [17] n (fun gh i wx => ∃ k : Nat, k ≤ n ∧ i = .int .i64 (k : Int) ∧ gh = n - k ∧ Hid (Below w.heap.size w wx))
  case atStart => exact ⟨0, Nat.zero_le _, rfl, rfl, Below.refl _ _⟩
  case round =>
    obtain ⟨k, hk, rfl, hg, HB⟩ := hrel
    have HG := Lib.hid hg
    clear hg hne
    by_cases hlt : k < n
    · obtain ⟨b, o, rfl, hcl, hca, hok⟩ := HR.out.1 k hlt
      obtain ⟨b', o', rfl, hcl', hca', hok'⟩ := HR.out.2.1 k hlt
      have hrel := HR.out.2.2 k hlt
      obtain ⟨xk, hxk⟩ : ∃ xk, xk = X k := ⟨_, rfl⟩
      obtain ⟨yk, hyk⟩ : ∃ yk, yk = Y k := ⟨_, rfl⟩
      rw [← hxk] at hcl hca hok hrel
      rw [← hyk] at hcl' hca' hok' hrel
      clear hxk hyk
      have hone1 : (outCs xk).toArray.all (·.oneCell') = true := arr_one (outK.one xk)
      have hone2 : (outCs yk).toArray.all (·.oneCell') = true := arr_one (outK.one yk)
      obtain ⟨IC, hIC⟩ : ∃ IC, IC = outCs xk := ⟨_, rfl⟩
      obtain ⟨JC, hJC⟩ : ∃ JC, JC = outCs yk := ⟨_, rfl⟩
      rw [← hIC] at hcl hca hone1
      rw [← hJC] at hcl' hca' hone2
      have HO := Lib.hid (And.intro hok (And.intro hok' hrel))
      have HIC := Lib.hid (And.intro hIC hJC)
      clear hIC hJC hok hok' hrel
      have hsa1 : IC.toArray.size = 2 := by rw [List.size_toArray]; exact hcl
      have hsa2 : JC.toArray.size = 2 := by rw [List.size_toArray]; exact hcl'
      have hr1 := cells_range (hca.below HB.out)
      have bz := Blk.new wr #[.int .i64 0, .slice none 0 0] 83
      have kz := (Below.refl wr.heap.size wr).alloc (Nat.le_refl _) (.cells #[.int .i64 0, .slice none 0 0] 83)
      have hinf1 : (Try.prog.info? 83).map (·.size) = some IC.toArray.size := by rw [hsa1]; kernel_rfl
      have hinf2 : (Try.prog.info? 83).map (·.size) = some JC.toArray.size := by rw [hsa2]; kernel_rfl
      have hinf1' : (Try.prog.info? 83).map (·.size) = some IC.length := by rw [hcl]; kernel_rfl
      have hinf2' : (Try.prog.info? 83).map (·.size) = some JC.length := by rw [hcl']; kernel_rfl
      have hsz1 : (#[.int .i64 0, .slice none 0 0] : Array Value).size = IC.toArray.size := by rw [hsa1]; rfl
      have hsz2 : (#[.int .i64 0, .slice none 0 0] : Array Value).size = JC.toArray.size := by rw [hsa2]; rfl
      have bx := bz.setAll IC.toArray hsz1
      have kx := below_setCells (B := wr.heap.size) (g := wr.heap.size) (Nat.le_refl _) IC.toArray.toList 0 (wr.alloc (.cells #[.int .i64 0, .slice none 0 0] 83)) kz
      have hr2 := hca'.below HB.out
      clear hca kz hcl hcl' hsa1 hsa2
      go_upto_region 6 with (first | (refine wpList_load_mid rfl 83 (.tmp 20) rfl b (o + k * 2) rfl IC _ hr1 Try.underlying83 rfl hinf1' ?_) | (refine wpl_store rfl 83 (.tmp 8) (.tmp 21) rfl rfl rfl bz hsz1 hinf1 hone1 ?_))
      rw [List.toList_toArray] at kx bx
      change Blk ((wr.alloc (.cells #[.int .i64 0, .slice none 0 0] 83)).setCells wr.heap.size 0 IC) wr.heap.size IC.toArray 83 at bx
      clear bz hr1
      generalize (wr.alloc (.cells #[.int .i64 0, .slice none 0 0] 83)).setCells wr.heap.size 0 IC = w4 at *
      generalize hgx : wr.heap.size = gx at *
      have hb4 : Below wr.heap.size wr w4 := by rw [hgx]; exact kx
      have hlx := bx.lt
      have hr2 := cells_range (hr2.below hb4)
      have bz := Blk.new w4 #[.int .i64 0, .slice none 0 0] 83
      have kz := (Below.refl w4.heap.size w4).alloc (Nat.le_refl _) (.cells #[.int .i64 0, .slice none 0 0] 83)
      have by' := bz.setAll JC.toArray hsz2
      have ky := below_setCells (B := w4.heap.size) (g := w4.heap.size) (Nat.le_refl _) JC.toArray.toList 0 (w4.alloc (.cells #[.int .i64 0, .slice none 0 0] 83)) kz
      have bx' := bx.beyond ky
      have HB4 := Lib.hid hb4
      clear kz hb4 kx
      go_upto_region 7 with (first | (refine wpList_load_mid rfl 83 (.tmp 24) rfl b' (o' + k * 2) rfl JC _ hr2 Try.underlying83 rfl hinf2' ?_) | (refine wpl_store rfl 83 (.tmp 9) (.tmp 25) rfl rfl rfl bz hsz2 hinf2 hone2 ?_))
      rw [List.toList_toArray] at ky by' bx'
      change Blk ((w4.alloc (.cells #[.int .i64 0, .slice none 0 0] 83)).setCells w4.heap.size 0 JC) w4.heap.size JC.toArray 83 at by'
      change Blk ((w4.alloc (.cells #[.int .i64 0, .slice none 0 0] 83)).setCells w4.heap.size 0 JC) gx IC.toArray 83 at bx'
      change Below w4.heap.size w4 ((w4.alloc (.cells #[.int .i64 0, .slice none 0 0] 83)).setCells w4.heap.size 0 JC) at ky
      clear bz hr2 bx
      generalize (w4.alloc (.cells #[.int .i64 0, .slice none 0 0] 83)).setCells w4.heap.size 0 JC = w5 at *
      have hb5 : Below wr.heap.size wr w5 := HB4.out.trans (ky.mono HB4.out.size)
      generalize hgy : w4.heap.size = gy at *
      have hbw5 := HB.out.trans (hb5.mono HB.out.size)
      have r1 := cells_range (w := w5) (b := gx) (o := 0) (cs := IC) (fun t ht => by rw [Nat.zero_add, bx'.cell, List.getElem?_toArray])
      have r2 := cells_range (w := w5) (b := gy) (o := 0) (cs := JC) (fun t ht => by rw [Nat.zero_add, by'.cell, List.getElem?_toArray])
      have PC : Calls Try.prog 80 #[.agg IC.toArray, .agg JC.toArray] w5 fun e w' => e = .returned (.bool true) ∧ Below w5.heap.size w5 w' := by
        rw [HIC.out.1, HIC.out.2]
        exact same_out xk yk w5 (OutOk.below hbw5 HO.out.1) (OutOk.below hbw5 HO.out.2.1) HO.out.2.2
      have PC := Lib.hid PC
      have HW5 := Lib.hid hbw5
      clear hb5 ky hbw5 bx' by'
      go_wp2_with (first | (refine wpList_load_mid rfl 83 (.tmp 8) rfl gx 0 rfl IC _ r1 Try.underlying83 rfl hinf1' ?_) | (refine wpList_load_mid rfl 83 (.tmp 9) rfl gy 0 rfl JC _ r2 Try.underlying83 rfl hinf2' ?_) | (refine PC.out.mono ?_; rintro e w6 ⟨rfl, hb6⟩))
      have H6 := Lib.hid (HW5.out.trans (hb6.mono HW5.out.size))
      clear hb6 r1 r2
      go_wp2
      go_roundg (n - (k + 1))
      case measure => rw [HG.out]; omega
      case rel => exact ⟨k + 1, hlt, rfl, rfl, H6.out⟩
    · obtain rfl : k = n := by omega
      go_wp2
      go_ret
      exact ⟨rfl, HB.out⟩
theorem SlOk.rowsIn {w : World} {s : SlD RwD} (h : SlOk 1048576 1 (fun r : RwD => [r.cell]) (RwOk 1048576) w s) : RowsIn w s.a s.n (fun i => (s.x i).a) (fun i => (s.x i).c) (fun i => (s.x i).z) := fun i hi => by
  obtain ⟨b, o, h1, _, h2, h3⟩ := h.2.2.2 i hi
  have := h2 0 (by simp)
  rw [Nat.mul_one] at this
  exact ⟨b, o, h1, this, h3.1⟩
theorem inCs_pt (x : InD) : inCs x = ptCs x.id x.index ++ [x.script.cell, .int .u32 x.seq, x.wit.cell] := by simp [inCs, ptCs]
theorem inCs_at34 (x : InD) : (inCs x)[34]? = some (.int .u32 x.seq) := by
  unfold inCs; rw [List.getElem?_append_right (by rw [hls_length]; decide), hls_length]; rfl
theorem ptInfo (id : Nat) (ix : Int) : (Try.prog.info? 111).map (·.size) = some (ptCs id ix).length := by rw [ptCs_len]; kernel_rfl
theorem range_pre {w : World} {b : Nat} {t : TypeId} {cs pre post : List Value} (h : Blk w b cs.toArray t) (e : cs = pre ++ post) : w.rangeAt b 0 pre := cells_range (fun i hi => by
  rw [Nat.zero_add, h.cell, List.getElem?_toArray, e, List.getElem?_append_left hi])
set_option maxHeartbeats 6400000 in
/-- two inputs that are the same -/
theorem same_in (x y : InD) (w : World) (hx : InOk 1048576 w x) (hy : InOk 1048576 w y) (hR : inEq x y) :
    Calls Try.prog 77 #[.agg (inCs x).toArray, .agg (inCs y).toArray] w fun e w' => e = .returned (.bool true) ∧ Below w.heap.size w w' := by
  obtain ⟨id, ix, ⟨xa, xc, xz⟩, sq, ⟨wa, n, wc, wx⟩⟩ := x
  obtain ⟨id', ix', ⟨ya, yc, yz⟩, sq', ⟨va, n', vc, vx⟩⟩ := y
  obtain ⟨e1, e2, e3, e4, e5, e6⟩ := hR
  obtain rfl : id = id' := e1
  obtain rfl : ix = ix' := e2
  obtain rfl : xz = yz := e3
  obtain rfl : sq = sq' := e4
  obtain rfl : n = n' := e5
  change ∀ i, i < n → rwEq (wx i) (vx i) at e6
  have hn : n ≤ 1048576 := hx.2.2.2.2.2.1.1
  obtain ⟨IC, hIC⟩ : ∃ IC, IC = inCs ⟨id, ix, ⟨xa, xc, xz⟩, sq, ⟨wa, n, wc, wx⟩⟩ := ⟨_, rfl⟩
  obtain ⟨JC, hJC⟩ : ∃ JC, JC = inCs ⟨id, ix, ⟨ya, yc, xz⟩, sq, ⟨va, n, vc, vx⟩⟩ := ⟨_, rfl⟩
  rw [← hIC, ← hJC]
  have L := two_blocks w IC.toArray JC.toArray 113 113
  have s1 := hx.2.2.1.1.below L.2.2
  have s2 := hy.2.2.1.1.below L.2.2
  have PE := Try.bytes_Equal_all xa ya xz.length xc xz.length yc xz xz ((w.alloc (.cells IC.toArray 113)).alloc (.cells JC.toArray 113)) rfl rfl s1.bytes s2.bytes
  rw [beq_self_eq_true] at PE
  have t1 := (SlOk.rowsIn hx.2.2.2.2).below L.2.2
  have t2 := (SlOk.rowsIn hy.2.2.2.2).below L.2.2
  have PT := same_rows wa va n wc vc _ _ _ _ _ _ ((w.alloc (.cells IC.toArray 113)).alloc (.cells JC.toArray 113)) t1 t2 (fun i hi => e6 i hi) (by omega)
  have r1 := range_pre L.1 (by rw [hIC]; exact inCs_pt _)
  have r2 := range_pre L.2.1 (by rw [hJC]; exact inCs_pt _)
  change World.rangeAt _ w.heap.size 0 (ptCs id ix) at r1
  change World.rangeAt _ (w.heap.size + 1) 0 (ptCs id ix) at r2
  have c33 : ((w.alloc (.cells IC.toArray 113)).alloc (.cells JC.toArray 113)).cell? ⟨w.heap.size, 33, none⟩ = some (.slice xa xz.length xc) := by rw [L.1.cell, List.getElem?_toArray]; exact (congrArg (fun l => l[33]?) hIC).trans (inCs_at33 _)
  have c34 : ((w.alloc (.cells IC.toArray 113)).alloc (.cells JC.toArray 113)).cell? ⟨w.heap.size, 34, none⟩ = some (.int .u32 sq) := by rw [L.1.cell, List.getElem?_toArray]; exact (congrArg (fun l => l[34]?) hIC).trans (inCs_at34 _)
  have c35 : ((w.alloc (.cells IC.toArray 113)).alloc (.cells JC.toArray 113)).cell? ⟨w.heap.size, 35, none⟩ = some (.slice wa n wc) := by rw [L.1.cell, List.getElem?_toArray]; exact (congrArg (fun l => l[35]?) hIC).trans (inCs_at35 _)
  have d33 : ((w.alloc (.cells IC.toArray 113)).alloc (.cells JC.toArray 113)).cell? ⟨w.heap.size + 1, 33, none⟩ = some (.slice ya xz.length yc) := by rw [L.2.1.cell, List.getElem?_toArray]; exact (congrArg (fun l => l[33]?) hJC).trans (inCs_at33 _)
  have d34 : ((w.alloc (.cells IC.toArray 113)).alloc (.cells JC.toArray 113)).cell? ⟨w.heap.size + 1, 34, none⟩ = some (.int .u32 sq) := by rw [L.2.1.cell, List.getElem?_toArray]; exact (congrArg (fun l => l[34]?) hJC).trans (inCs_at34 _)
  have d35 : ((w.alloc (.cells IC.toArray 113)).alloc (.cells JC.toArray 113)).cell? ⟨w.heap.size + 1, 35, none⟩ = some (.slice va n vc) := by rw [L.2.1.cell, List.getElem?_toArray]; exact (congrArg (fun l => l[35]?) hJC).trans (inCs_at35 _)
  have hE := fun W => eqPt id id ix ix hx.1 hx.1 W
  rw [beq_self_eq_true, beq_self_eq_true] at hE
  have hE2 : ∀ W, (binOp .eql 111 (.agg (ptCs id ix).toArray) (.agg (ptCs id ix).toArray)).run Try.prog W = .ok (.bool true) W := hE
  have hpi := ptInfo id ix
  have HP := Lib.hid (And.intro PE (And.intro PT (And.intro r1 (And.intro r2 (And.intro hE2 (And.intro hpi L.2.2))))))
  have hq : (sq == sq) = true := beq_self_eq_true _
  clear PE PT r1 r2 hE hE2 hpi hx hy s1 s2 t1 t2 e6 L hIC hJC
  generalize xz.length = z at *
  generalize ptCs id ix = PC at *
  go_enter Try.func77, Try.ntmps77
  go_wp2_with (first | (refine wpList_load_mid rfl 111 (.tmp 5) rfl w.heap.size 0 rfl PC _ HP.out.2.2.1 Try.underlying111 rfl HP.out.2.2.2.2.2.1 ?_) | (refine wpList_load_mid rfl 111 (.tmp 7) rfl (w.heap.size + 1) 0 rfl PC _ HP.out.2.2.2.1 Try.underlying111 rfl HP.out.2.2.2.2.2.1 ?_) | (refine wpl_eql rfl 111 111 (.tmp 6) (.tmp 8) rfl rfl rfl (eqGuardPt _ _ _ _ _) (HP.out.2.2.2.2.1 _) ?_) | (refine HP.out.1.mono ?_; rintro e w' ⟨rfl, rfl⟩) | (refine HP.out.2.1.mono ?_; rintro e w' ⟨rfl, rfl⟩))
  go_ret
  exact ⟨rfl, HP.out.2.2.2.2.2.2⟩
set_option maxHeartbeats 6400000 in
theorem eqf_in (a0 b0 : Option Addr) (n ca cb : Nat) (X Y : Nat → InD) (w : World) (hX : ElemsIn w a0 n 36 inCs (InOk 1048576) X) (hY : ElemsIn w b0 n 36 inCs (InOk 1048576) Y) (hR : ∀ i, i < n → inEq (X i) (Y i)) (hn : n ≤ 1048576) :
    Calls Try.prog 78 #[.slice a0 n ca, .slice b0 n cb, .func (.func 77) #[] #[]] w fun e w' => e = .returned (.bool true) ∧ Below w.heap.size w w' := by
  have HR := Lib.hid (And.intro hX (And.intro hY hR))
  clear hX hY hR
  have hne : ((n : Int) != (n : Int)) = false := bne_self_eq_false _
  go_enter Try.func78, Try.ntmps78
  go_wp2
  go_loopg [17] n (fun gh i wx => ∃ k : Nat, k ≤ n ∧ i = .int .i64 (k : Int) ∧ gh = n - k ∧ Hid (Below w.heap.size w wx))
  case atStart => exact ⟨0, Nat.zero_le _, rfl, rfl, Below.refl _ _⟩
  case round =>
    obtain ⟨k, hk, rfl, hg, HB⟩ := hrel
    have HG := Lib.hid hg
    clear hg hne
    by_cases hlt : k < n
    · obtain ⟨b, o, rfl, hcl, hca, hok⟩ := HR.out.1 k hlt
      obtain ⟨b', o', rfl, hcl', hca', hok'⟩ := HR.out.2.1 k hlt
      have hrel := HR.out.2.2 k hlt
      obtain ⟨xk, hxk⟩ : ∃ xk, xk = X k := ⟨_, rfl⟩
      obtain ⟨yk, hyk⟩ : ∃ yk, yk = Y k := ⟨_, rfl⟩
      rw [← hxk] at hcl hca hok hrel
      rw [← hyk] at hcl' hca' hok' hrel
      clear hxk hyk
      have hone1 : (inCs xk).toArray.all (·.oneCell') = true := arr_one (inK.one xk)
      have hone2 : (inCs yk).toArray.all (·.oneCell') = true := arr_one (inK.one yk)
      obtain ⟨IC, hIC⟩ : ∃ IC, IC = inCs xk := ⟨_, rfl⟩
      obtain ⟨JC, hJC⟩ : ∃ JC, JC = inCs yk := ⟨_, rfl⟩
      rw [← hIC] at hcl hca hone1
      rw [← hJC] at hcl' hca' hone2
      have HO := Lib.hid (And.intro hok (And.intro hok' hrel))
      have HIC := Lib.hid (And.intro hIC hJC)
      clear hIC hJC hok hok' hrel
      have hsa1 : IC.toArray.size = 36 := by rw [List.size_toArray]; exact hcl
      have hsa2 : JC.toArray.size = 36 := by rw [List.size_toArray]; exact hcl'
      have hr1 := cells_range (hca.below HB.out)
      have bz := Blk.new wr inz 113
      have kz := (Below.refl wr.heap.size wr).alloc (Nat.le_refl _) (.cells inz 113)
      have hinf1 : (Try.prog.info? 113).map (·.size) = some IC.toArray.size := by rw [hsa1]; kernel_rfl
      have hinf2 : (Try.prog.info? 113).map (·.size) = some JC.toArray.size := by rw [hsa2]; kernel_rfl
      have hinf1' : (Try.prog.info? 113).map (·.size) = some IC.length := by rw [hcl]; kernel_rfl
      have hinf2' : (Try.prog.info? 113).map (·.size) = some JC.length := by rw [hcl']; kernel_rfl
      have hsz1 : (inz : Array Value).size = IC.toArray.size := by rw [hsa1]; rfl
      have hsz2 : (inz : Array Value).size = JC.toArray.size := by rw [hsa2]; rfl
      have bx := bz.setAll IC.toArray hsz1
      have kx := below_setCells (B := wr.heap.size) (g := wr.heap.size) (Nat.le_refl _) IC.toArray.toList 0 (wr.alloc (.cells inz 113)) kz
      have hr2 := hca'.below HB.out
      clear hca kz hcl hcl' hsa1 hsa2
      go_upto_region 6 with (first | (refine wpList_load_mid rfl 113 (.tmp 20) rfl b (o + k * 36) rfl IC _ hr1 Try.underlying113 rfl hinf1' ?_) | (refine wpl_store rfl 113 (.tmp 8) (.tmp 21) rfl rfl rfl bz hsz1 hinf1 hone1 ?_))
      rw [List.toList_toArray] at kx bx
      change Blk ((wr.alloc (.cells inz 113)).setCells wr.heap.size 0 IC) wr.heap.size IC.toArray 113 at bx
      clear bz hr1
      generalize (wr.alloc (.cells inz 113)).setCells wr.heap.size 0 IC = w4 at *
      generalize hgx : wr.heap.size = gx at *
      have hb4 : Below wr.heap.size wr w4 := by rw [hgx]; exact kx
      have hlx := bx.lt
      have hr2 := cells_range (hr2.below hb4)
      have bz := Blk.new w4 inz 113
      have kz := (Below.refl w4.heap.size w4).alloc (Nat.le_refl _) (.cells inz 113)
      have by' := bz.setAll JC.toArray hsz2
      have ky := below_setCells (B := w4.heap.size) (g := w4.heap.size) (Nat.le_refl _) JC.toArray.toList 0 (w4.alloc (.cells inz 113)) kz
      have bx' := bx.beyond ky
      have HB4 := Lib.hid hb4
      clear kz hb4 kx
      go_upto_region 7 with (first | (refine wpList_load_mid rfl 113 (.tmp 24) rfl b' (o' + k * 36) rfl JC _ hr2 Try.underlying113 rfl hinf2' ?_) | (refine wpl_store rfl 113 (.tmp 9) (.tmp 25) rfl rfl rfl bz hsz2 hinf2 hone2 ?_))
      rw [List.toList_toArray] at ky by' bx'
      change Blk ((w4.alloc (.cells inz 113)).setCells w4.heap.size 0 JC) w4.heap.size JC.toArray 113 at by'
      change Blk ((w4.alloc (.cells inz 113)).setCells w4.heap.size 0 JC) gx IC.toArray 113 at bx'
      change Below w4.heap.size w4 ((w4.alloc (.cells inz 113)).setCells w4.heap.size 0 JC) at ky
      clear bz hr2 bx
      generalize (w4.alloc (.cells inz 113)).setCells w4.heap.size 0 JC = w5 at *
      have hb5 : Below wr.heap.size wr w5 := HB4.out.trans (ky.mono HB4.out.size)
      generalize hgy : w4.heap.size = gy at *
      have hbw5 := HB.out.trans (hb5.mono HB.out.size)
      have r1 := cells_range (w := w5) (b := gx) (o := 0) (cs := IC) (fun t ht => by rw [Nat.zero_add, bx'.cell, List.getElem?_toArray])
      have r2 := cells_range (w := w5) (b := gy) (o := 0) (cs := JC) (fun t ht => by rw [Nat.zero_add, by'.cell, List.getElem?_toArray])
      have PC : Calls Try.prog 77 #[.agg IC.toArray, .agg JC.toArray] w5 fun e w' => e = .returned (.bool true) ∧ Below w5.heap.size w5 w' := by
        rw [HIC.out.1, HIC.out.2]
        exact same_in xk yk w5 (InOk.below hbw5 HO.out.1) (InOk.below hbw5 HO.out.2.1) HO.out.2.2
      have PC := Lib.hid PC
      have HW5 := Lib.hid hbw5
      clear hb5 ky hbw5 bx' by'
      go_wp2_with (first | (refine wpList_load_mid rfl 113 (.tmp 8) rfl gx 0 rfl IC _ r1 Try.underlying113 rfl hinf1' ?_) | (refine wpList_load_mid rfl 113 (.tmp 9) rfl gy 0 rfl JC _ r2 Try.underlying113 rfl hinf2' ?_) | (refine PC.out.mono ?_; rintro e w6 ⟨rfl, hb6⟩))
      have H6 := Lib.hid (HW5.out.trans (hb6.mono HW5.out.size))
      clear hb6 r1 r2
      go_wp2
      go_roundg (n - (k + 1))
      case measure => rw [HG.out]; omega
      case rel => exact ⟨k + 1, hlt, rfl, rfl, H6.out⟩
    · obtain rfl : k = n := by omega
      go_wp2
      go_ret
      exact ⟨rfl, HB.out⟩
def tx00 : Array Value := #[.int .u32 0, .slice none 0 0, .slice none 0 0, .int .u32 0]
set_option maxHeartbeats 6400000 in
/-- two transactions that are the same -/
theorem same_tx (x y : TxD) (w : World) (hx : TxOk 1048576 w x) (hy : TxOk 1048576 w y) (hR : txEq x y) :
    Calls Try.prog 47 #[.agg (txCs x).toArray, .agg (txCs y).toArray] w fun e w' => e = .returned (.bool true) ∧ Below w.heap.size w w' := by
  obtain ⟨ver, ⟨ia, n, ic, ix⟩, ⟨oa, m, oc, ox⟩, lock⟩ := x
  obtain ⟨ver', ⟨ja, n', jc, jx⟩, ⟨pa, m', pc, px⟩, lock'⟩ := y
  obtain ⟨e1, ⟨e2, e3⟩, ⟨e4, e5⟩, e6⟩ := hR
  obtain rfl : ver = ver' := e1
  obtain rfl : n = n' := e2
  obtain rfl : m = m' := e4
  obtain rfl : lock = lock' := e6
  change ∀ i, i < n → inEq (ix i) (jx i) at e3
  change ∀ i, i < m → outEq (ox i) (px i) at e5
  have hn : n ≤ 1048576 := hx.2.1.2.1.1
  have hm : m ≤ 1048576 := hx.2.2.1.2.1.1
  change Calls Try.prog 47 #[.agg #[.int .u32 ver, .slice ia n ic, .slice oa m oc, .int .u32 lock], .agg #[.int .u32 ver, .slice ja n jc, .slice pa m pc, .int .u32 lock]] w _
  have L := two_blocks w #[.int .u32 ver, .slice ia n ic, .slice oa m oc, .int .u32 lock] #[.int .u32 ver, .slice ja n jc, .slice pa m pc, .int .u32 lock] 80 80
  have xi := (hx.2.1.2.2.2).below L.2.2 (fun _ h => InOk.below L.2.2 h)
  have yi := (hy.2.1.2.2.2).below L.2.2 (fun _ h => InOk.below L.2.2 h)
  have PI := eqf_in ia ja n ic jc ix jx ((w.alloc (.cells #[.int .u32 ver, .slice ia n ic, .slice oa m oc, .int .u32 lock] 80)).alloc (.cells #[.int .u32 ver, .slice ja n jc, .slice pa m pc, .int .u32 lock] 80)) xi yi e3 hn
  have xo := (hx.2.2.1.2.2.2).below L.2.2 (fun _ h => OutOk.below L.2.2 h)
  have yo := (hy.2.2.1.2.2.2).below L.2.2 (fun _ h => OutOk.below L.2.2 h)
  have HO := Lib.hid (And.intro xo (And.intro yo e5))
  have PI := Lib.hid PI
  have HL := Lib.hid L
  have q1 : (ver == ver) = true := beq_self_eq_true _
  have q2 : (lock == lock) = true := beq_self_eq_true _
  clear xi yi xo yo e3 e5 L hx hy
  go_enter Try.func47, Try.ntmps47
  go_upto_region 2 with fail
  generalize (w.alloc (.cells #[.int .u32 ver, .slice ia n ic, .slice oa m oc, .int .u32 lock] 80)).alloc (.cells #[.int .u32 ver, .slice ja n jc, .slice pa m pc, .int .u32 lock] 80) = w2 at *
  have c0 : w2.cell? ⟨w.heap.size, 0, none⟩ = some (.int .u32 ver) := HL.out.1.cell 0
  have c1 : w2.cell? ⟨w.heap.size, 1, none⟩ = some (.slice ia n ic) := HL.out.1.cell 1
  have c3 : w2.cell? ⟨w.heap.size, 3, none⟩ = some (.int .u32 lock) := HL.out.1.cell 3
  have d0 : w2.cell? ⟨w.heap.size + 1, 0, none⟩ = some (.int .u32 ver) := HL.out.2.1.cell 0
  have d1 : w2.cell? ⟨w.heap.size + 1, 1, none⟩ = some (.slice ja n jc) := HL.out.2.1.cell 1
  have d3 : w2.cell? ⟨w.heap.size + 1, 3, none⟩ = some (.int .u32 lock) := HL.out.2.1.cell 3
  go_wp2_with fail
  refine PI.out.mono ?_
  rintro e w3 ⟨rfl, hb3⟩
  have c2 : w3.cell? ⟨w.heap.size, 2, none⟩ = some (.slice oa m oc) := (HL.out.1.beyond hb3).cell 2
  have d2 : w3.cell? ⟨w.heap.size + 1, 2, none⟩ = some (.slice pa m pc) := (HL.out.2.1.beyond hb3).cell 2
  have PO := Lib.hid (eqf_out oa pa m oc pc ox px w3 (HO.out.1.below hb3 (fun _ h => OutOk.below hb3 h)) (HO.out.2.1.below hb3 (fun _ h => OutOk.below hb3 h)) HO.out.2.2 hm)
  have HB3 := Lib.hid (HL.out.2.2.trans (hb3.mono HL.out.2.2.size))
  clear c0 c1 c3 d0 d1 d3 hb3
  go_wp2_with fail
  refine PO.out.mono ?_
  rintro e w4 ⟨rfl, hb4⟩
  have HB4 := Lib.hid (HB3.out.trans (hb4.mono HB3.out.size))
  clear hb4 c2 d2
  go_wp2
  go_ret
  exact ⟨rfl, HB4.out⟩
set_option maxHeartbeats 6400000 in
theorem eqf_tx (a0 b0 : Option Addr) (n ca cb : Nat) (X Y : Nat → TxD) (w : World) (hX : ElemsIn w a0 n 4 txCs (TxOk 1048576) X) (hY : ElemsIn w b0 n 4 txCs (TxOk 1048576) Y) (hR : ∀ i, i < n → txEq (X i) (Y i)) (hn : n ≤ 1048576) :
    Calls Try.prog 46 #[.slice a0 n ca, .slice b0 n cb, .func (.func 47) #[] #[]] w fun e w' => e = .returned (.bool true) ∧ Below w.heap.size w w' := by
  have HR := Lib.hid (And.intro hX (And.intro hY hR))
  clear hX hY hR
  have hne : ((n : Int) != (n : Int)) = false := bne_self_eq_false _
  go_enter Try.func46, Try.ntmps46
  go_wp2
  go_loopg [17] n (fun gh i wx => ∃ k : Nat, k ≤ n ∧ i = .int .i64 (k : Int) ∧ gh = n - k ∧ Hid (Below w.heap.size w wx))
  case atStart => exact ⟨0, Nat.zero_le _, rfl, rfl, Below.refl _ _⟩
  case round =>
    obtain ⟨k, hk, rfl, hg, HB⟩ := hrel
    have HG := Lib.hid hg
    clear hg hne
    by_cases hlt : k < n
    · obtain ⟨b, o, rfl, hcl, hca, hok⟩ := HR.out.1 k hlt
      obtain ⟨b', o', rfl, hcl', hca', hok'⟩ := HR.out.2.1 k hlt
      have hrel := HR.out.2.2 k hlt
      obtain ⟨xk, hxk⟩ : ∃ xk, xk = X k := ⟨_, rfl⟩
      obtain ⟨yk, hyk⟩ : ∃ yk, yk = Y k := ⟨_, rfl⟩
      rw [← hxk] at hcl hca hok hrel
      rw [← hyk] at hcl' hca' hok' hrel
      clear hxk hyk
      have hone1 : (txCs xk).toArray.all (·.oneCell') = true := arr_one (txK.one xk)
      have hone2 : (txCs yk).toArray.all (·.oneCell') = true := arr_one (txK.one yk)
      obtain ⟨IC, hIC⟩ : ∃ IC, IC = txCs xk := ⟨_, rfl⟩
      obtain ⟨JC, hJC⟩ : ∃ JC, JC = txCs yk := ⟨_, rfl⟩
      rw [← hIC] at hcl hca hone1
      rw [← hJC] at hcl' hca' hone2
      have HO := Lib.hid (And.intro hok (And.intro hok' hrel))
      have HIC := Lib.hid (And.intro hIC hJC)
      clear hIC hJC hok hok' hrel
      have hsa1 : IC.toArray.size = 4 := by rw [List.size_toArray]; exact hcl
      have hsa2 : JC.toArray.size = 4 := by rw [List.size_toArray]; exact hcl'
      have hr1 := cells_range (hca.below HB.out)
      have bz := Blk.new wr #[.int .u32 0, .slice none 0 0, .slice none 0 0, .int .u32 0] 80
      have kz := (Below.refl wr.heap.size wr).alloc (Nat.le_refl _) (.cells #[.int .u32 0, .slice none 0 0, .slice none 0 0, .int .u32 0] 80)
      have hinf1 : (Try.prog.info? 80).map (·.size) = some IC.toArray.size := by rw [hsa1]; kernel_rfl
      have hinf2 : (Try.prog.info? 80).map (·.size) = some JC.toArray.size := by rw [hsa2]; kernel_rfl
      have hinf1' : (Try.prog.info? 80).map (·.size) = some IC.length := by rw [hcl]; kernel_rfl
      have hinf2' : (Try.prog.info? 80).map (·.size) = some JC.length := by rw [hcl']; kernel_rfl
      have hsz1 : (#[.int .u32 0, .slice none 0 0, .slice none 0 0, .int .u32 0] : Array Value).size = IC.toArray.size := by rw [hsa1]; rfl
      have hsz2 : (#[.int .u32 0, .slice none 0 0, .slice none 0 0, .int .u32 0] : Array Value).size = JC.toArray.size := by rw [hsa2]; rfl
      have bx := bz.setAll IC.toArray hsz1
      have kx := below_setCells (B := wr.heap.size) (g := wr.heap.size) (Nat.le_refl _) IC.toArray.toList 0 (wr.alloc (.cells #[.int .u32 0, .slice none 0 0, .slice none 0 0, .int .u32 0] 80)) kz
      have hr2 := hca'.below HB.out
      clear hca kz hcl hcl' hsa1 hsa2
      go_upto_region 6 with (first | (refine wpList_load_mid rfl 80 (.tmp 20) rfl b (o + k * 4) rfl IC _ hr1 Try.underlying80 rfl hinf1' ?_) | (refine wpl_store rfl 80 (.tmp 8) (.tmp 21) rfl rfl rfl bz hsz1 hinf1 hone1 ?_))
      rw [List.toList_toArray] at kx bx
      change Blk ((wr.alloc (.cells #[.int .u32 0, .slice none 0 0, .slice none 0 0, .int .u32 0] 80)).setCells wr.heap.size 0 IC) wr.heap.size IC.toArray 80 at bx
      clear bz hr1
      generalize (wr.alloc (.cells #[.int .u32 0, .slice none 0 0, .slice none 0 0, .int .u32 0] 80)).setCells wr.heap.size 0 IC = w4 at *
      generalize hgx : wr.heap.size = gx at *
      have hb4 : Below wr.heap.size wr w4 := by rw [hgx]; exact kx
      have hlx := bx.lt
      have hr2 := cells_range (hr2.below hb4)
      have bz := Blk.new w4 #[.int .u32 0, .slice none 0 0, .slice none 0 0, .int .u32 0] 80
      have kz := (Below.refl w4.heap.size w4).alloc (Nat.le_refl _) (.cells #[.int .u32 0, .slice none 0 0, .slice none 0 0, .int .u32 0] 80)
      have by' := bz.setAll JC.toArray hsz2
      have ky := below_setCells (B := w4.heap.size) (g := w4.heap.size) (Nat.le_refl _) JC.toArray.toList 0 (w4.alloc (.cells #[.int .u32 0, .slice none 0 0, .slice none 0 0, .int .u32 0] 80)) kz
      have bx' := bx.beyond ky
      have HB4 := Lib.hid hb4
      clear kz hb4 kx
      go_upto_region 7 with (first | (refine wpList_load_mid rfl 80 (.tmp 24) rfl b' (o' + k * 4) rfl JC _ hr2 Try.underlying80 rfl hinf2' ?_) | (refine wpl_store rfl 80 (.tmp 9) (.tmp 25) rfl rfl rfl bz hsz2 hinf2 hone2 ?_))
      rw [List.toList_toArray] at ky by' bx'
      change Blk ((w4.alloc (.cells #[.int .u32 0, .slice none 0 0, .slice none 0 0, .int .u32 0] 80)).setCells w4.heap.size 0 JC) w4.heap.size JC.toArray 80 at by'
      change Blk ((w4.alloc (.cells #[.int .u32 0, .slice none 0 0, .slice none 0 0, .int .u32 0] 80)).setCells w4.heap.size 0 JC) gx IC.toArray 80 at bx'
      change Below w4.heap.size w4 ((w4.alloc (.cells #[.int .u32 0, .slice none 0 0, .slice none 0 0, .int .u32 0] 80)).setCells w4.heap.size 0 JC) at ky
      clear bz hr2 bx
      generalize (w4.alloc (.cells #[.int .u32 0, .slice none 0 0, .slice none 0 0, .int .u32 0] 80)).setCells w4.heap.size 0 JC = w5 at *
      have hb5 : Below wr.heap.size wr w5 := HB4.out.trans (ky.mono HB4.out.size)
      generalize hgy : w4.heap.size = gy at *
      have hbw5 := HB.out.trans (hb5.mono HB.out.size)
      have r1 := cells_range (w := w5) (b := gx) (o := 0) (cs := IC) (fun t ht => by rw [Nat.zero_add, bx'.cell, List.getElem?_toArray])
      have r2 := cells_range (w := w5) (b := gy) (o := 0) (cs := JC) (fun t ht => by rw [Nat.zero_add, by'.cell, List.getElem?_toArray])
      have PC : Calls Try.prog 47 #[.agg IC.toArray, .agg JC.toArray] w5 fun e w' => e = .returned (.bool true) ∧ Below w5.heap.size w5 w' := by
        rw [HIC.out.1, HIC.out.2]
        exact same_tx xk yk w5 (TxOk.below hbw5 HO.out.1) (TxOk.below hbw5 HO.out.2.1) HO.out.2.2
      have PC := Lib.hid PC
      have HW5 := Lib.hid hbw5
      clear hb5 ky hbw5 bx' by'
      go_wp2_with (first | (refine wpList_load_mid rfl 80 (.tmp 8) rfl gx 0 rfl IC _ r1 Try.underlying80 rfl hinf1' ?_) | (refine wpList_load_mid rfl 80 (.tmp 9) rfl gy 0 rfl JC _ r2 Try.underlying80 rfl hinf2' ?_) | (refine PC.out.mono ?_; rintro e w6 ⟨rfl, hb6⟩))
      have H6 := Lib.hid (HW5.out.trans (hb6.mono HW5.out.size))
      clear hb6 r1 r2
      go_wp2
      go_roundg (n - (k + 1))
      case measure => rw [HG.out]; omega
      case rel => exact ⟨k + 1, hlt, rfl, rfl, H6.out⟩
    · obtain rfl : k = n := by omega
      go_wp2
      go_ret
      exact ⟨rfl, HB.out⟩
theorem hdrInfoS (x : HdrD) : (Try.prog.info? 38).map (·.size) = some (hdrCs x).length := by rw [hdrCs_len]; kernel_rfl
set_option maxHeartbeats 6400000 in
/-- two blocks that are the same -/
theorem same_blk (B C : BlkD) (w : World) (hx : BlkOk 1048576 w B) (hy : BlkOk 1048576 w C) (hR : blkEq B C) :
    Calls Try.prog 23 #[.agg (blkCs B).toArray, .agg (blkCs C).toArray] w fun e w' => e = .returned (.bool true) ∧ Below w.heap.size w w' := by
  obtain ⟨hd, ⟨ia, n, ic, ix⟩⟩ := B
  obtain ⟨hd', ⟨ja, n', jc, jx⟩⟩ := C
  obtain ⟨e1, e2, e3⟩ := hR
  obtain rfl : hd = hd' := e1
  obtain rfl : n = n' := e2
  change ∀ i, i < n → txEq (ix i) (jx i) at e3
  have hn : n ≤ 1048576 := hx.2.2.1.1
  obtain ⟨IC, hIC⟩ : ∃ IC, IC = blkCs ⟨hd, ⟨ia, n, ic, ix⟩⟩ := ⟨_, rfl⟩
  obtain ⟨JC, hJC⟩ : ∃ JC, JC = blkCs ⟨hd, ⟨ja, n, jc, jx⟩⟩ := ⟨_, rfl⟩
  rw [← hIC, ← hJC]
  have L := two_blocks w IC.toArray JC.toArray 41 41
  have xi := (hx.2.2.2.2).below L.2.2 (fun _ h => TxOk.below L.2.2 h)
  have yi := (hy.2.2.2.2).below L.2.2 (fun _ h => TxOk.below L.2.2 h)
  have PI := eqf_tx ia ja n ic jc ix jx ((w.alloc (.cells IC.toArray 41)).alloc (.cells JC.toArray 41)) xi yi e3 hn
  have r1 := range_pre L.1 (hIC.trans rfl)
  have r2 := range_pre L.2.1 (hJC.trans rfl)
  change World.rangeAt _ w.heap.size 0 (hdrCs hd) at r1
  change World.rangeAt _ (w.heap.size + 1) 0 (hdrCs hd) at r2
  have c68 : ((w.alloc (.cells IC.toArray 41)).alloc (.cells JC.toArray 41)).cell? ⟨w.heap.size, 68, none⟩ = some (.slice ia n ic) := by rw [L.1.cell, hIC]; exact blk_txs _
  have d68 : ((w.alloc (.cells IC.toArray 41)).alloc (.cells JC.toArray 41)).cell? ⟨w.heap.size + 1, 68, none⟩ = some (.slice ja n jc) := by rw [L.2.1.cell, hJC]; exact blk_txs _
  have hE := fun W => eqHdr hd hd hx.1 hx.1 W
  rw [hdrB_self] at hE
  have hpi := hdrInfoS hd
  have HP := Lib.hid (And.intro PI (And.intro r1 (And.intro r2 (And.intro hE (And.intro hpi L.2.2)))))
  clear PI r1 r2 hE hpi xi yi hx hy e3 L hIC hJC
  generalize hdrCs hd = HC at *
  go_enter Try.func23, Try.ntmps23
  go_wp2_with (first | (refine wpList_load_mid rfl 38 (.tmp 5) rfl w.heap.size 0 rfl HC _ HP.out.2.1 Try.underlying38 rfl HP.out.2.2.2.2.1 ?_) | (refine wpList_load_mid rfl 38 (.tmp 7) rfl (w.heap.size + 1) 0 rfl HC _ HP.out.2.2.1 Try.underlying38 rfl HP.out.2.2.2.2.1 ?_) | (refine wpl_eql rfl 38 38 (.tmp 6) (.tmp 8) rfl rfl rfl (eqGuardHdr _ _ _ _ _) (HP.out.2.2.2.1 _) ?_) | (refine HP.out.1.mono ?_; rintro e w' ⟨rfl, hb⟩))
  have HB := Lib.hid (HP.out.2.2.2.2.2.trans (hb.mono HP.out.2.2.2.2.2.size))
  clear hb c68 d68
  go_wp2
  go_ret
  exact ⟨rfl, HB.out⟩
end Go.Proofs.Ytppcccocnmhbgaa
