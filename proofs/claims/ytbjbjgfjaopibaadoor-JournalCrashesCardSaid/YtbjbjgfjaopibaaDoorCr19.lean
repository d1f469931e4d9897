import Derived.Test.YtbjbjgfjaopibaaDoorCr18
section
/- The law's 'after', walked. -/
namespace Go.Proofs.YtbjbjgfjaopibaaDoor
open Go Go.RowKit
set_option linter.unusedSimpArgs false
set_option linter.unusedVariables false
set_option maxRecDepth 100000

theorem OutAt.fresh {w : World} {ob : Nat} {X : List PairD} {o : Option Nat} (h : OutAt w ob X o) : ob < w.heap.size ∧ ∀ g, o = some g → g < w.heap.size := by
  obtain ⟨v, h1, h2, _⟩ := h
  exact ⟨h1.lt, h2.lt⟩
set_option maxHeartbeats 12800000 in
theorem pafter (X : List PairD) (q : Option Addr) (c : Nat) (o : Option Nat) (B : BatchD) (w : World) (h : RowV w 55 2 (.slice q X.length c) X.length (X.flatMap pairCs) o) (hq : X = [] → q = none) (hl : X.length ≤ 100000000000) (hB : BatOk w B) (hbn : B.puts.n ≤ 100000) :
    Calls Tryd.prog 25 #[.slice q X.length c, .agg (batCs B).toArray] w fun e w' => ∃ v o', e = .returned v ∧ RowV w' 55 2 v (aftD X B B.dels.n).length ((aftD X B B.dels.n).flatMap pairCs) o' ∧ (∀ g, o' = some g → w.heap.size ≤ g) ∧ Below w.heap.size w w' := by
  change Calls Tryd.prog 25 #[.slice q X.length c, .agg #[.slice B.puts.a B.puts.n B.puts.c, .slice B.dels.a B.dels.n B.dels.c]] w _
  have k0 := (Below.refl w.heap.size w).alloc (Nat.le_refl _) (.cells #[.slice B.puts.a B.puts.n B.puts.c, .slice B.dels.a B.dels.n B.dels.c] 25)
  have bn := Blk.new w #[.slice B.puts.a B.puts.n B.puts.c, .slice B.dels.a B.dels.n B.dels.c] 25
  have PC := Lib.hid (pcloneP X q c o _ (h.keep (X := fun _ => False) ((Keep.refl _ w).alloc (.cells #[.slice B.puts.a B.puts.n B.puts.c, .slice B.dels.a B.dels.n B.dels.c] 25)) (fun _ _ h => h)) hq (by omega))
  have HB := Lib.hid (And.intro hB (And.intro k0 bn))
  clear hB k0 bn h hq
  have hdl := HB.out.1.2.1
  have hdl2 := HB.out.1.2.2.1
  have hpl2 := HB.out.1.1.2.1
  obtain ⟨pn, hpn⟩ : ∃ pn, pn = B.puts.n := ⟨_, rfl⟩
  obtain ⟨dn, hdn⟩ : ∃ dn, dn = B.dels.n := ⟨_, rfl⟩
  obtain ⟨pa, hpa⟩ : ∃ pa, pa = B.puts.a := ⟨_, rfl⟩
  obtain ⟨da, hda⟩ : ∃ da, da = B.dels.a := ⟨_, rfl⟩
  obtain ⟨pc, hpc⟩ : ∃ pc, pc = B.puts.c := ⟨_, rfl⟩
  obtain ⟨dc, hdc⟩ : ∃ dc, dc = B.dels.c := ⟨_, rfl⟩
  have hdn7 : dn ≤ 140737488351232 := by rw [hdn]; exact hdl2.1
  rw [← hpn, ← hpa, ← hpc, ← hdn, ← hda, ← hdc] at HB PC ⊢
  rw [← hpn] at hbn
  have HN := Lib.hid (And.intro hpn (And.intro hdn (And.intro hpa (And.intro hda (And.intro hpc hdc)))))
  clear hpn hdn hpa hda hpc hdc hdl hdl2 hpl2
  have HXL := Lib.hid hl
  clear hl
  generalize hxn : X.length = xn at *
  have HXN := Lib.hid hxn
  clear hxn
  go_enter Tryd.func25, Tryd.ntmps25
  go_upto_region 1 with fail
  generalize w.alloc (.cells #[.slice pa pn pc, .slice da dn dc] 25) = w0 at *
  have c0 := HB.out.2.2.cell 0
  have c1 := HB.out.2.2.cell 1
  go_wp2_with fail
  refine PC.out.mono ?_
  rintro e w1 ⟨v1, o1, rfl, hR1, ho1, hb1⟩
  obtain ⟨q1, c1', rfl, _⟩ := hR1.form
  have HR1 := Lib.hid (And.intro hR1 (And.intro ho1 hb1))
  clear hR1 ho1 hb1 PC c0 c1
  go_upto_region 3 with fail
  have hO2 : OutAt (w1.alloc (.cells #[.slice q1 xn c1'] 22)) w1.heap.size X o1 := by
    refine ⟨_, Blk.new w1 _ _, ?_, fun e => ?_⟩
    · rw [HXN.out]; exact HR1.out.1.keep (X := fun _ => False) ((Keep.refl _ w1).alloc _) (fun _ _ h => h)
    · have := HR1.out.1.lt _ e; omega
  have h01 := HB.out.2.1.trans (HR1.out.2.2.mono HB.out.2.1.size)
  have hb02 : Below w.heap.size w (w1.alloc (.cells #[.slice q1 xn c1'] 22)) := h01.alloc h01.size _
  have hwob : w.heap.size ≤ w1.heap.size := h01.size
  have bB := HB.out.2.2.beyond (HR1.out.2.2.alloc HR1.out.2.2.size (.cells #[.slice q1 xn c1'] 22))
  have H2 := Lib.hid (And.intro hO2 (And.intro (show ∀ g, o1 = some g → w.heap.size < g from fun g hg => Nat.lt_of_lt_of_le HB.out.2.2.lt (HR1.out.2.1 g hg)) (And.intro hb02 (And.intro hwob bB))))
  have hw1b : w.heap.size < w1.heap.size := Nat.lt_of_lt_of_le HB.out.2.2.lt HR1.out.2.2.size
  clear hO2 hb02 hwob h01
  generalize hob : w1.heap.size = ob at *
  generalize w1.alloc (.cells #[.slice q1 xn c1'] 22) = w2 at *
  have cB := bB.cell 0
  clear bB hob
  go_wp2
  go_loopg [18] pn (fun gh i wx => ∃ (k : Nat) (ok : Option Nat), k ≤ pn ∧ i = .int .i64 (k : Int) ∧ gh = pn - k ∧ Hid (OutAt wx ob (aftP X B k) ok ∧ (∀ g, ok = some g → w.heap.size < g) ∧ Below w.heap.size w wx ∧ Blk wx w.heap.size #[.slice pa pn pc, .slice da dn dc] 25))
  case atStart => exact ⟨0, o1, Nat.zero_le _, rfl, rfl, H2.out.1, H2.out.2.1, H2.out.2.2.1, H2.out.2.2.2.2⟩
  case round =>
    obtain ⟨k, ok, hk, rfl, hg, HK⟩ := hrel
    have HG := Lib.hid hg
    clear hg
    by_cases hlt : k < pn
    rotate_left
    · obtain rfl : k = pn := by omega
      have cb1 := HK.out.2.2.2.cell 1
      have hK0 : aftP X B k = aftD X B 0 := by rw [HN.out.1]; rfl
      have HK0 := Lib.hid (And.intro (hK0 ▸ HK.out.1) (And.intro HK.out.2.1 HK.out.2.2.1))
      clear hK0
      go_wp2
      go_loopg [51] dn (fun gh i wx => ∃ m : Nat, m ≤ dn ∧ i = .int .i64 (m : Int) ∧ gh = dn - m ∧ Hid (OutAt wx ob (aftD X B m) ok ∧ Below w.heap.size w wx))
      case atStart => exact ⟨0, Nat.zero_le _, rfl, rfl, HK0.out.1, HK0.out.2.2⟩
      case round =>
        obtain ⟨m, hm, rfl, hg2, HM⟩ := hrel
        have HG2 := Lib.hid hg2
        clear hg2
        by_cases hlt2 : m < dn
        · obtain ⟨b2, o2, rfl, _, hca, _⟩ := (show ElemsIn w da dn 1 strCs StrOk B.dels.x from by rw [HN.out.2.1, HN.out.2.2.2.1]; exact HB.out.1.2.2.2.2) m hlt2
          have hca' := hca.below HM.out.2
          have d1 : wr.cell? ⟨b2, o2 + m, none⟩ = some (.string (B.dels.x m)) := by have h := hca' 0 (by show 0 < 1; decide); rw [Nat.mul_one, Nat.add_zero] at h; exact h
          have hlen : (aftD X B m).length ≤ 1000000000000 := by have h1 := aftD_len X B m; rw [HXN.out, ← HN.out.1] at h1; have h2 := HXL.out; omega
          have PW := pwithout (aftD X B m) ob ok (B.dels.x m) wr HM.out.1 hlen
          obtain ⟨xk, hxk⟩ : ∃ xk, xk = B.dels.x m := ⟨_, rfl⟩
          rw [← hxk] at d1 PW
          have HXK := Lib.hid hxk
          have PW := Lib.hid PW
          clear hxk hca hca' hlen
          go_wp2_with fail
          refine PW.out.mono ?_
          rintro e w5 ⟨rfl, O5, hk5⟩
          have H5 := Lib.hid (And.intro (show OutAt w5 ob (aftD X B (m + 1)) ok from by rw [aftD_succ, ← HXK.out]; exact O5) (HM.out.2.trans (hk5.below HM.out.2.size (fun t ht => by
            rcases ht with ht | ht
            · omega
            · have := HK0.out.2.1 _ ht; omega))))
          clear O5 hk5 PW d1
          go_wp2
          go_roundg (dn - (m + 1))
          case measure => rw [HG2.out]; omega
          case rel => exact ⟨m + 1, hlt2, by go_num, rfl, H5.out⟩
        · obtain rfl : m = dn := by omega
          obtain ⟨v9, hB9, hR9, hob9⟩ := HM.out.1
          obtain ⟨q9, c9, rfl, _⟩ := hR9.form
          have cz := hB9.cell 0
          have HR9 := Lib.hid hR9
          obtain ⟨n9, hn9⟩ : ∃ n9, n9 = (aftD X B m).length := ⟨_, rfl⟩
          rw [← hn9] at cz
          have HN9 := Lib.hid hn9
          clear hn9 hB9 hR9 hob9
          go_wp2
          go_ret
          refine ⟨.slice q9 n9 c9, ok, rfl, ?_, fun g hg => Nat.le_of_lt (HK0.out.2.1 g hg), HM.out.2⟩
          rw [HN9.out]
          exact HR9.out
    obtain ⟨b', o', rfl, hcl, hca, hok⟩ := (show ElemsIn w pa pn 2 pairCs PairOk B.puts.x from by rw [HN.out.1, HN.out.2.2.1]; exact HB.out.1.1.2.2.2) k hlt
    obtain ⟨xd, hxd⟩ : ∃ xd, xd = B.puts.x k := ⟨_, rfl⟩
    rw [← hxd] at hca hok
    have HXD := Lib.hid hxd
    clear hxd hcl
    obtain ⟨xk, ⟨xa, xc, xz⟩⟩ := xd
    have hca' := hca.below HK.out.2.2.1
    change CellsAt wr b' (o' + k * 2) [.string xk, .slice xa xz.length xc] at hca'
    have hr1 := cells_rangeJ hca'
    clear hca hca' hok
    obtain ⟨xl, hxl⟩ : ∃ xl, xl = xz.length := ⟨_, rfl⟩
    rw [← hxl] at hr1
    have HZ := Lib.hid hxl
    clear hxl
    have hone1 : (#[.string xk, .slice xa xl xc] : Array Value).all (·.oneCell') = true := arr_oneJ (l := [.string xk, .slice xa xl xc]) (fun u hu => by simp only [List.mem_cons, List.not_mem_nil, or_false] at hu; rcases hu with rfl | rfl <;> rfl)
    have bz := Blk.new wr #[.string ⟨#[]⟩, .slice none 0 0] 55
    have kz := (Below.refl wr.heap.size wr).alloc (Nat.le_refl _) (.cells #[.string ⟨#[]⟩, .slice none 0 0] 55)
    have hinf1 : (Tryd.prog.info? 55).map (·.size) = some (#[.string xk, .slice xa xl xc] : Array Value).size := by kernel_rfl
    have hinf1' : (Tryd.prog.info? 55).map (·.size) = some ([.string xk, .slice xa xl xc] : List Value).length := by kernel_rfl
    have hsz1 : (#[.string ⟨#[]⟩, .slice none 0 0] : Array Value).size = (#[.string xk, .slice xa xl xc] : Array Value).size := rfl
    have bx := bz.setAll #[.string xk, .slice xa xl xc] hsz1
    have kx := below_setCells (B := wr.heap.size) (g := wr.heap.size) (Nat.le_refl _) [.string xk, .slice xa xl xc] 0 (wr.alloc (.cells #[.string ⟨#[]⟩, .slice none 0 0] 55)) kz
    clear kz
    go_upto_region 6 with (first | (refine wpList_load_mid rfl 55 (.tmp 20) rfl b' (o' + k * 2) rfl [.string xk, .slice xa xl xc] _ hr1 Tryd.underlying55 rfl hinf1' ?_) | (refine wpl_store rfl 55 (.tmp 8) (.tmp 21) rfl rfl rfl bz hsz1 hinf1 hone1 ?_))
    change Blk ((wr.alloc (.cells #[.string ⟨#[]⟩, .slice none 0 0] 55)).setCells wr.heap.size 0 [.string xk, .slice xa xl xc]) wr.heap.size #[.string xk, .slice xa xl xc] 55 at bx
    clear bz hr1
    try simp only [List.toList_toArray]
    generalize (wr.alloc (.cells #[.string ⟨#[]⟩, .slice none 0 0] 55)).setCells wr.heap.size 0 [.string xk, .slice xa xl xc] = w4 at *
    generalize hgx : wr.heap.size = gx at *
    have hb4 : Below wr.heap.size wr w4 := by rw [hgx]; exact kx
    have hgxo : ob < gx ∧ (∀ g, ok = some g → g < gx) := by rw [← hgx]; exact HK.out.1.fresh
    have hgw : w.heap.size < gx := by omega
    have O4 := HK.out.1.below hb4
    have hlen : (aftP X B k).length ≤ 1000000000000 := by have h1 := aftP_len X B k; rw [HXN.out] at h1; have h2 := HXL.out; omega
    have PW := Lib.hid (pwithout (aftP X B k) ob ok xk w4 O4 hlen)
    have cx := bx.cell 0
    have H4 := Lib.hid (And.intro hb4 (And.intro bx (And.intro (HK.out.2.2.1.trans (hb4.mono HK.out.2.2.1.size)) (HK.out.2.2.2.beyond hb4))))
    clear hb4 kx O4 bx
    go_wp2_with fail
    refine PW.out.mono ?_
    rintro e w5 ⟨rfl, O5, hk5⟩
    have bx5 := hk5.blk H4.out.2.1 (fun e => by
      rcases e with e | e
      · have := hgxo.1; omega
      · have := hgxo.2 _ e; omega)
    have bb5 := hk5.blk H4.out.2.2.2 (fun e => by
      rcases e with e | e
      · omega
      · have := HK.out.2.1 _ e; omega)
    have hb5 : Below w.heap.size w w5 := H4.out.2.2.1.trans (hk5.below H4.out.2.2.1.size (fun k hk' => by
      rcases hk' with e | e
      · omega
      · have := HK.out.2.1 _ e; omega))
    have hYl : (wOut xk (aftP X B k)).length ≤ 1000000000000 := Nat.le_trans (wOut_len _ _) hlen
    obtain ⟨Y, hY⟩ : ∃ Y, Y = wOut xk (aftP X B k) := ⟨_, rfl⟩
    change OutAt w5 ob (wOut xk (aftP X B k)) ok at O5
    rw [← hY] at O5 hYl
    have HY := Lib.hid hY
    have O5' := O5
    obtain ⟨v5, hB5, hR5, hob5⟩ := O5
    obtain ⟨q5, c5, rfl, _⟩ := hR5.form
    obtain ⟨n5, hn5⟩ : ∃ n5, n5 = Y.length := ⟨_, rfl⟩
    have H5 := Lib.hid (And.intro O5' (And.intro bx5 (And.intro bb5 (And.intro hb5 (And.intro hB5 (And.intro hR5 hob5))))))
    rw [← hn5] at hYl
    have HN5 := Lib.hid hn5
    clear hY O5' hB5 hR5 hob5 bx5 bb5 hb5 hn5 hk5 cx PW hlen
    go_wp2
    go_loopg [9] n5 (fun gh i wx => ∃ a : Nat, a ≤ n5 ∧ i = .int .i64 (a : Int) ∧ gh = n5 - a ∧ Hid ((∀ i (hi : i < Y.length), i < a → keyLt xk Y[i] = true) ∧ Below w5.heap.size w5 wx))
    case atStart => exact ⟨0, Nat.zero_le _, rfl, rfl, fun i _ h => absurd h (Nat.not_lt_zero i), Below.refl _ _⟩
    case round =>
      obtain ⟨a, ha, rfl, hg2, HA⟩ := hrel
      have HG2 := Lib.hid hg2
      clear hg2
      have c1 := (H5.out.2.2.2.2.1.beyond HA.out.2).cell 0
      have c2 := (H5.out.2.1.beyond HA.out.2).cell 0
      rw [← HN5.out] at c1
      have d1 : wr.drew.cell? ⟨ob, 0, none⟩ = some (.slice q5 n5 c5) := c1
      have d2 : wr.drew.cell? ⟨gx, 0, none⟩ = some (.string xk) := c2
      by_cases hlt2 : a < n5
      · have hay : a < Y.length := by rw [← HN5.out]; exact hlt2
        have hRw := H5.out.2.2.2.2.2.1.keep (Keep.of_below (X := fun _ => False) HA.out.2) (fun _ _ h => h)
        obtain ⟨g5, cap5, ho5, e5, _, _, _, _, _⟩ := hRw.mem (by omega)
        cases e5
        rw [ho5] at hRw
        obtain ⟨b5, o5, e6, hca5⟩ := hRw.pairs a hay
        cases e6
        have d3 : wr.drew.cell? ⟨g5, a * 2, none⟩ = some (.string Y[a].key) := by have h := hca5 0 (by show 0 < 2; decide); rw [Nat.zero_add, Nat.add_zero] at h; exact h
        obtain ⟨yk, hyk⟩ : ∃ yk, yk = Y[a].key := ⟨_, rfl⟩
        rw [← hyk] at d3
        have HYK := Lib.hid hyk
        clear hyk hRw hca5
        go_wp2
        go_region
        have hles : Op.bytesLess yk.toList xk.toList = keyLt xk Y[a] := by
          unfold keyLt
          rw [Go.Proofs.bytesLess_eq, ByteArray.toList_eq, ByteArray.toList_eq, ← HYK.out]; rfl
        cases hb : keyLt xk Y[a]
        · rw [hb] at hles
          rw [hles]
          have hpos : posP xk Y = a := posP_stop (by rw [← HN5.out]; exact ha) HA.out.1 (fun _ => hb)
          have HP := Lib.hid hpos
          clear hpos hb hles d1 d2 d3 c1 c2
          have hwy : Below w5.heap.size w5 wr.drew := HA.out.2.drew
          generalize wr.drew = wz at *
          have Oz := H5.out.1.below hwy
          have bxz := H5.out.2.1.beyond hwy
          have bbz := H5.out.2.2.1.beyond hwy
          have hbz : Below w.heap.size w wz := H5.out.2.2.2.1.trans (hwy.mono H5.out.2.2.2.1.size)
          have hBz := H5.out.2.2.2.2.1.beyond hwy
          have hRz := H5.out.2.2.2.2.2.1.keep (Keep.of_below (X := fun _ => False) hwy) (fun _ _ h => h)
          have hoz := Oz.fresh
          have bv : Blk (wz.alloc (.cells #[.string xk, .slice xa xl xc] 55)) wz.heap.size (pairCs ⟨xk, ⟨xa, xc, xz⟩⟩).toArray 55 := by
            rw [HZ.out]; exact Blk.new wz _ _
          have hal := (Keep.refl (fun _ => False) wz).alloc (.cells #[.string xk, .slice xa xl xc] 55)
          have hasz : (wz.alloc (.cells #[.string xk, .slice xa xl xc] 55)).heap.size = wz.heap.size + 1 := by simp
          have PI := pinsert Y _ _ ok ⟨xk, ⟨xa, xc, xz⟩⟩ wz.heap.size a (wz.alloc (.cells #[.string xk, .slice xa xl xc] 55)) (hRz.keep hal (fun _ _ h => h)) bv (fun e => by have := hoz.2 _ e; omega) (by rw [← HN5.out]; exact hYl) (by rw [← HN5.out]; exact ha)
          rw [← HN5.out] at PI
          have PI := Lib.hid PI
          have rz := cells_rangeJ (w := wz) (b := gx) (o := 0) (cs := [.string xk, .slice xa xl xc]) (fun t ht => by rw [Nat.zero_add, bxz.cell, ← List.getElem?_toArray])
          have cz := hBz.cell 0
          rw [← HN5.out] at cz
          have HZZ := Lib.hid (And.intro (hBz.alloc (.cells #[.string xk, .slice xa xl xc] 55)) (And.intro (bbz.alloc (.cells #[.string xk, .slice xa xl xc] 55)) (And.intro (hbz.alloc hbz.size (.cells #[.string xk, .slice xa xl xc] 55)) (And.intro hasz hoz))))
          clear hwy Oz bxz bbz hbz hBz hRz hoz bv hal hasz
          go_wp2_with (first | (refine wpList_load_mid rfl 55 (.tmp 8) rfl gx 0 rfl [.string xk, .slice xa xl xc] _ rz Tryd.underlying55 rfl hinf1' ?_))
          refine PI.out.mono ?_
          rintro e w8 ⟨v8, rfl, g8, R8, ho8, k8⟩
          obtain ⟨q8, c8, rfl, _⟩ := R8.form
          have hB8 := k8.blk HZZ.out.1 H5.out.2.2.2.2.2.2
          have bb8 := k8.blk HZZ.out.2.1 (fun e => by have := HK.out.2.1 _ e; omega)
          have hb8 := HZZ.out.2.2.1.trans (k8.below HZZ.out.2.2.1.size (fun t ht => by have := HK.out.2.1 _ ht; omega))
          have c8' := hB8.cell 0
          have f8' := hB8.free 0
          have hne8 : some g8 ≠ some ob := fun e => by
            cases e
            rcases ho8 with h | h
            · exact H5.out.2.2.2.2.2.2 h
            · have h1 := HZZ.out.2.2.2.1; have h2 := HZZ.out.2.2.2.2.1; omega
          have hg8 : ∀ g, some g8 = some g → w.heap.size < g := fun g e => by
            cases e
            rcases ho8 with h | h
            · exact HK.out.2.1 _ h
            · have h1 := HZZ.out.2.2.1.size; have h2 := HZZ.out.2.2.2.1; have h3 := HZZ.out.2.2.2.2.1; omega
          have hstep : Y.take a ++ ⟨xk, ⟨xa, xc, xz⟩⟩ :: Y.drop a = aftP X B (k + 1) := by
            rw [aftP_succ, ← HXD.out]
            show _ = insP (wOut xk (aftP X B k)) ⟨xk, ⟨xa, xc, xz⟩⟩
            rw [← HY.out]
            show _ = Y.take (posP xk Y) ++ _ :: Y.drop (posP xk Y)
            rw [HP.out]
          have hsl : n5 + 1 = (aftP X B (k + 1)).length := by
            rw [← hstep, List.length_append, List.length_cons, List.length_take, List.length_drop, ← HN5.out]; omega
          have O9 : OutAt (w8.setCell ⟨ob, 0, none⟩ (.slice q8 (n5 + 1) c8)) ob (aftP X B (k + 1)) (some g8) := by
            refine ⟨_, (hB8.set 0 (.slice q8 (n5 + 1) c8) : Blk _ ob #[.slice q8 (n5 + 1) c8] _), ?_, hne8⟩
            rw [← hsl, ← hstep]
            exact R8.keep (Keep.set (X := fun t => t = ob) (Keep.refl _ w8) (p := ⟨ob, 0, none⟩) (.inl rfl) _) (fun g hg e => hne8 (by rw [hg, e]))
          have H9 := Lib.hid (And.intro O9 (And.intro hg8 (And.intro (hb8.setCell (p := ⟨ob, 0, none⟩) H2.out.2.2.2.1 (.slice q8 (n5 + 1) c8)) ((Keep.set (X := fun t => t = ob) (Keep.refl _ w8) (p := ⟨ob, 0, none⟩) (.inl rfl) (.slice q8 (n5 + 1) c8)).blk bb8 (by show ¬ w.heap.size = ob; omega)))))
          clear O9 hg8 hne8 hb8 bb8 hB8 hstep hsl k8 ho8 R8 PI rz cz
          go_wp2
          go_roundg (pn - (k + 1))
          case measure => rw [HG.out]; omega
          case rel => exact ⟨k + 1, some g8, hlt, by go_num, rfl, H9.out⟩
        · rw [hb] at hles
          rw [hles]
          have hnext : ∀ i (hi : i < Y.length), i < a + 1 → keyLt xk Y[i] = true := fun i hi hia => by
            rcases Nat.lt_or_ge i a with h1 | h1
            · exact HA.out.1 i hi h1
            · obtain rfl : i = a := by omega
              exact hb
          have HNX := Lib.hid hnext
          clear hnext hb hles d1 d2 d3 c1 c2
          go_wp2
          go_roundg (n5 - (a + 1))
          case measure => rw [HG2.out]; omega
          case rel => exact ⟨a + 1, hlt2, by go_num, rfl, HNX.out, HA.out.2.drew⟩
      · obtain rfl : a = n5 := by omega
        have hpos : posP xk Y = a := posP_stop (by rw [← HN5.out]; exact ha) HA.out.1 (fun h => absurd h (by rw [← HN5.out]; exact Nat.lt_irrefl _))
        have HP := Lib.hid hpos
        go_wp2
        go_region
        clear hpos d1 d2 c1 c2
        have hwy : Below w5.heap.size w5 wr.drew := HA.out.2.drew
        generalize wr.drew = wz at *
        have Oz := H5.out.1.below hwy
        have bxz := H5.out.2.1.beyond hwy
        have bbz := H5.out.2.2.1.beyond hwy
        have hbz : Below w.heap.size w wz := H5.out.2.2.2.1.trans (hwy.mono H5.out.2.2.2.1.size)
        have hBz := H5.out.2.2.2.2.1.beyond hwy
        have hRz := H5.out.2.2.2.2.2.1.keep (Keep.of_below (X := fun _ => False) hwy) (fun _ _ h => h)
        have hoz := Oz.fresh
        have bv : Blk (wz.alloc (.cells #[.string xk, .slice xa xl xc] 55)) wz.heap.size (pairCs ⟨xk, ⟨xa, xc, xz⟩⟩).toArray 55 := by
          rw [HZ.out]; exact Blk.new wz _ _
        have hal := (Keep.refl (fun _ => False) wz).alloc (.cells #[.string xk, .slice xa xl xc] 55)
        have hasz : (wz.alloc (.cells #[.string xk, .slice xa xl xc] 55)).heap.size = wz.heap.size + 1 := by simp
        have PI := pinsert Y _ _ ok ⟨xk, ⟨xa, xc, xz⟩⟩ wz.heap.size a (wz.alloc (.cells #[.string xk, .slice xa xl xc] 55)) (hRz.keep hal (fun _ _ h => h)) bv (fun e => by have := hoz.2 _ e; omega) (by rw [← HN5.out]; exact hYl) (by rw [← HN5.out]; exact ha)
        rw [← HN5.out] at PI
        have PI := Lib.hid PI
        have rz := cells_rangeJ (w := wz) (b := gx) (o := 0) (cs := [.string xk, .slice xa xl xc]) (fun t ht => by rw [Nat.zero_add, bxz.cell, ← List.getElem?_toArray])
        have cz := hBz.cell 0
        rw [← HN5.out] at cz
        have HZZ := Lib.hid (And.intro (hBz.alloc (.cells #[.string xk, .slice xa xl xc] 55)) (And.intro (bbz.alloc (.cells #[.string xk, .slice xa xl xc] 55)) (And.intro (hbz.alloc hbz.size (.cells #[.string xk, .slice xa xl xc] 55)) (And.intro hasz hoz))))
        clear hwy Oz bxz bbz hbz hBz hRz hoz bv hal hasz
        go_wp2_with (first | (refine wpList_load_mid rfl 55 (.tmp 8) rfl gx 0 rfl [.string xk, .slice xa xl xc] _ rz Tryd.underlying55 rfl hinf1' ?_))
        refine PI.out.mono ?_
        rintro e w8 ⟨v8, rfl, g8, R8, ho8, k8⟩
        obtain ⟨q8, c8, rfl, _⟩ := R8.form
        have hB8 := k8.blk HZZ.out.1 H5.out.2.2.2.2.2.2
        have bb8 := k8.blk HZZ.out.2.1 (fun e => by have := HK.out.2.1 _ e; omega)
        have hb8 := HZZ.out.2.2.1.trans (k8.below HZZ.out.2.2.1.size (fun t ht => by have := HK.out.2.1 _ ht; omega))
        have c8' := hB8.cell 0
        have f8' := hB8.free 0
        have hne8 : some g8 ≠ some ob := fun e => by
          cases e
          rcases ho8 with h | h
          · exact H5.out.2.2.2.2.2.2 h
          · have h1 := HZZ.out.2.2.2.1; have h2 := HZZ.out.2.2.2.2.1; omega
        have hg8 : ∀ g, some g8 = some g → w.heap.size < g := fun g e => by
          cases e
          rcases ho8 with h | h
          · exact HK.out.2.1 _ h
          · have h1 := HZZ.out.2.2.1.size; have h2 := HZZ.out.2.2.2.1; have h3 := HZZ.out.2.2.2.2.1; omega
        have hstep : Y.take a ++ ⟨xk, ⟨xa, xc, xz⟩⟩ :: Y.drop a = aftP X B (k + 1) := by
          rw [aftP_succ, ← HXD.out]
          show _ = insP (wOut xk (aftP X B k)) ⟨xk, ⟨xa, xc, xz⟩⟩
          rw [← HY.out]
          show _ = Y.take (posP xk Y) ++ _ :: Y.drop (posP xk Y)
          rw [HP.out]
        have hsl : a + 1 = (aftP X B (k + 1)).length := by
          rw [← hstep, List.length_append, List.length_cons, List.length_take, List.length_drop, ← HN5.out]; omega
        have O9 : OutAt (w8.setCell ⟨ob, 0, none⟩ (.slice q8 (a + 1) c8)) ob (aftP X B (k + 1)) (some g8) := by
          refine ⟨_, (hB8.set 0 (.slice q8 (a + 1) c8) : Blk _ ob #[.slice q8 (a + 1) c8] _), ?_, hne8⟩
          rw [← hsl, ← hstep]
          exact R8.keep (Keep.set (X := fun t => t = ob) (Keep.refl _ w8) (p := ⟨ob, 0, none⟩) (.inl rfl) _) (fun g hg e => hne8 (by rw [hg, e]))
        have H9 := Lib.hid (And.intro O9 (And.intro hg8 (And.intro (hb8.setCell (p := ⟨ob, 0, none⟩) H2.out.2.2.2.1 (.slice q8 (a + 1) c8)) ((Keep.set (X := fun t => t = ob) (Keep.refl _ w8) (p := ⟨ob, 0, none⟩) (.inl rfl) (.slice q8 (a + 1) c8)).blk bb8 (by show ¬ w.heap.size = ob; omega)))))
        clear O9 hg8 hne8 hb8 bb8 hB8 hstep hsl k8 ho8 R8 PI rz cz
        go_wp2
        go_roundg (pn - (k + 1))
        case measure => rw [HG.out]; omega
        case rel => exact ⟨k + 1, some g8, hlt, by go_num, rfl, H9.out⟩
end Go.Proofs.YtbjbjgfjaopibaaDoor
end

section
/- JournalCrashes: lists that are held, what a crash leaves, plainly. -/
namespace Go.Proofs.YtbjbjgfjaopibaaDoor
open Go Go.RowKit
set_option linter.unusedSimpArgs false
set_option linter.unusedVariables false
set_option maxRecDepth 100000

def PHeld (S : Nat → Prop) (w : World) (x : PairD) : Prop := x.key.size ≤ MB ∧ RwOk MB w x.val ∧ (0 < x.val.z.length → ∀ q, x.val.a = some q → S q.block)
/-- a list of pairs whose memory lies in S -/
def HL (S : Nat → Prop) (w : World) (v : Value) (X : List PairD) : Prop := ∃ o, RowV w 55 2 v X.length (X.flatMap pairCs) o ∧ (∀ g, o = some g → S g) ∧ ∀ x ∈ X, PHeld S w x
section
variable {S S' Y : Nat → Prop} {w w' : World} {v : Value} {X : List PairD}
theorem PHeld.keep {x : PairD} (h : PHeld S w x) (hk : Keep Y w w') (hn : ∀ g, S g → ¬ Y g) : PHeld S w' x := ⟨h.1, ⟨h.2.1.1.keep0 hk (fun h0 q hq => hn _ (h.2.2 h0 q hq)), h.2.1.2⟩, h.2.2⟩
theorem HL.keep (h : HL S w v X) (hk : Keep Y w w') (hn : ∀ g, S g → ¬ Y g) : HL S w' v X := by
  obtain ⟨o, h1, h2, h3⟩ := h
  exact ⟨o, h1.keep hk (fun g hg => hn g (h2 g hg)), h2, fun x hx => (h3 x hx).keep hk hn⟩
theorem HL.more (h : HL S w v X) (hb : Below w.heap.size w w') : HL S w' v X := h.keep (Keep.of_below (X := fun _ => False) hb) (fun _ _ h => h)
theorem HL.mono (h : HL S w v X) (hm : ∀ g, S g → S' g) : HL S' w v X := by
  obtain ⟨o, h1, h2, h3⟩ := h
  exact ⟨o, h1, fun g hg => hm g (h2 g hg), fun x hx => ⟨(h3 x hx).1, (h3 x hx).2.1, fun h0 q hq => hm _ ((h3 x hx).2.2 h0 q hq)⟩⟩
theorem HL.form (h : HL S w v X) : ∃ q c, v = .slice q X.length c := by
  obtain ⟨o, h1, _⟩ := h
  obtain ⟨q, c, e, _⟩ := h1.form
  exact ⟨q, c, e⟩
theorem HL.elems {q : Option Addr} {c : Nat} (h : HL S w (.slice q X.length c) X) : ElemsIn w q X.length 2 pairCs PairOk (fun i => X.getD i ⟨⟨#[]⟩, ⟨none, 0, []⟩⟩) := fun i hi => by
  obtain ⟨o, h1, _, h3⟩ := h
  obtain ⟨g, cap, ho, ev, _, _, _, _, _⟩ := h1.mem (by omega)
  cases ev
  rw [ho] at h1
  have egd : X.getD i ⟨⟨#[]⟩, ⟨none, 0, []⟩⟩ = X[i] := by rw [List.getD_eq_getElem?_getD, List.getElem?_eq_getElem hi]; rfl
  obtain ⟨b, o', e1, hc⟩ := h1.pairs i hi
  refine ⟨b, o', e1, ?_, ?_, ?_⟩
  · show (pairCs (X.getD i ⟨⟨#[]⟩, ⟨none, 0, []⟩⟩)).length = 2; rfl
  · show CellsAt w b (o' + i * 2) (pairCs (X.getD i ⟨⟨#[]⟩, ⟨none, 0, []⟩⟩)); rw [egd]; exact hc
  · show PairOk w (X.getD i ⟨⟨#[]⟩, ⟨none, 0, []⟩⟩)
    rw [egd]
    have := h3 _ (List.getElem_mem hi)
    exact ⟨this.1, this.2.1⟩
theorem LstAt.hl {G : Nat} (h : LstAt pairK 55 w G v X) : HL (fun g => G ≤ g ∧ g < w.heap.size) w v X := by
  obtain ⟨o, h1, h2, h3⟩ := h
  exact ⟨o, h1, fun g hg => ⟨h2 g hg, h1.lt g hg⟩, fun x hx => ⟨(h3 x hx).1, (h3 x hx).2.1, fun _ q hq => ⟨((h3 x hx).2.2 q hq).1, ((h3 x hx).2.2 q hq).2.1⟩⟩⟩
end
/-- whether two lists of pairs are the same, wherever they lie -/
theorem psameH {S1 S2 : Nat → Prop} {w : World} {q1 q2 : Option Addr} {c1 c2 : Nat} {X Y : List PairD} (h1 : HL S1 w (.slice q1 X.length c1) X) (h2 : HL S2 w (.slice q2 Y.length c2) Y) (l1 : X.length ≤ 1000000000000) (l2 : Y.length ≤ 1000000000000) :
    Calls Tryd.prog 18 #[.slice q1 X.length c1, .slice q2 Y.length c2] w fun e w' => ∃ b, e = .returned (.bool b) ∧ (X.map pairX = Y.map pairX → b = true) ∧ Below w.heap.size w w' := by
  have P := eqf_pairs q1 q2 X.length Y.length c1 c2 _ _ w h1.elems h2.elems l1 l2
  have P' : Calls Tryd.prog 44 #[.slice q1 X.length c1, .slice q2 Y.length c2, .func (.func 45) #[] #[]] w fun e w' => ∃ b, e = .returned (.bool b) ∧ (X.map pairX = Y.map pairX → b = true) ∧ Below w.heap.size w w' :=
    P.mono fun e w' ⟨b, he, hb, hbel⟩ => ⟨b, he, fun h => hb (by have := congrArg List.length h; simpa using this) (fun i hi => map_eq_getD h i hi), hbel⟩
  have PP := Lib.hid P'
  clear P P' h1 h2 l1 l2
  obtain ⟨R, hR⟩ : ∃ R : Prop, R = (X.map pairX = Y.map pairX) := ⟨_, rfl⟩
  rw [← hR] at PP ⊢
  clear hR
  generalize X.length = n at *
  generalize Y.length = m at *
  go_enter Tryd.func18, Tryd.ntmps18
  go_wp2_with fail
  refine PP.out.mono ?_
  rintro e w1 ⟨b, rfl, hb, hbel⟩
  have HB := Lib.hid (And.intro hb hbel)
  clear hb hbel
  go_wp2
  go_ret
  exact ⟨b, rfl, HB.out⟩
/-- where a crash may cut, the tape opens to one of two -/
def CrashTo (s : JS) (L1 L2 : KV) : Prop := ∀ N : Nat, s.sy ≤ N → N ≤ s.xs.length → (opnS (s.xs.take N) N s.ro (-1)).2.l = L1 ∨ (opnS (s.xs.take N) N s.ro (-1)).2.l = L2
theorem opn_l (xs : List Int) (sy ro : Int) : (opnS xs sy ro (-1)).2.l = doAll [] (opens xs).1 := by
  unfold opnS
  rw [if_neg (fun f => absurd f.2 (by decide))]
theorem crash_log {s : JS} (h : JLog s) : CrashTo s s.l s.l := fun N h1 h2 => by
  obtain ⟨⟨DB, hf, e1, e2, e3⟩, e4⟩ := h
  have hN : N = s.xs.length := by omega
  have ho := opens_eq (xs := DB) (r := []) hf Byt.nil nil_none
  rw [List.append_nil] at ho
  left
  rw [opn_l, hN, List.take_length, e1, ho, e2]
theorem com_cases (s : JS) (x : BatD) (hd : s.hd = false) (hL : JLog s) (hx : CanB x → Fit x) :
    (¬ CanB x ∧ comS s x = (1, s)) ∨ (CanB x ∧ (comS s x).1 = 0 ∧ (comS s x).2.l = doK s.l x ∧ (comS s x).2.hd = false ∧ JLog (comS s x).2) ∨
    (CanB x ∧ (comS s x).1 ≠ 0 ∧ (comS s x).1 ≠ 1 ∧ (comS s x).2.l = s.l ∧ CrashTo (comS s x).2 s.l (doK s.l x)) := by
  by_cases hc : CanB x
  · right
    have fx := hx hc
    have hL' := hL
    obtain ⟨⟨DB, hf, e1, e2, e3⟩, e4⟩ := hL
    have ho := opens_eq (xs := DB) (r := []) hf Byt.nil nil_none
    rw [List.append_nil] at ho
    by_cases ha : appE s.xs.length (frmX x).length s.ro s.fu = 0
    · by_cases hb : burnE (burn s.fu) = 0
      · left
        have ec : comS s x = (0, { s with xs := s.xs ++ frmX x, sy := ((s.xs ++ frmX x).length : Int), fu := burn (burn s.fu), l := doK s.l x, n := s.n + 1 }) := by
          unfold comS; rw [if_neg (fun f => f hc), if_neg (by rw [hd]; decide), if_neg (fun f => f ha), if_neg (fun f => f hb)]
        rw [ec]
        refine ⟨hc, rfl, rfl, hd, ⟨DB ++ [x], fun y hy => ?_, ?_, ?_, ?_⟩, rfl⟩
        · rcases List.mem_append.1 hy with h | h
          · exact hf y h
          · rw [List.mem_singleton.1 h]; exact fx
        · show s.xs ++ frmX x = _
          rw [List.flatMap_append, List.flatMap_singleton, e1]
        · show doK s.l x = _
          rw [doAll_snoc, e2]
        · show s.n + 1 = _
          rw [List.length_append, e3]; rfl
      · right
        have ec : comS s x = (burnE (burn s.fu), { s with xs := s.xs ++ frmX x, fu := burn (burn s.fu), hd := true }) := by
          unfold comS; rw [if_neg (fun f => f hc), if_neg (by rw [hd]; decide), if_neg (fun f => f ha), if_pos hb]
        rw [ec]
        refine ⟨hc, hb, ?_, rfl, fun N h1 h2 => ?_⟩
        · show burnE (burn s.fu) ≠ 1
          unfold burnE; split <;> decide
        · change s.sy ≤ (N : Int) at h1
          change N ≤ (s.xs ++ frmX x).length at h2
          rw [List.length_append] at h2
          show (opnS ((s.xs ++ frmX x).take N) N s.ro (-1)).2.l = _ ∨ (opnS ((s.xs ++ frmX x).take N) N s.ro (-1)).2.l = _
          rw [opn_l]
          have hsn : s.xs.length ≤ N := by omega
          have ht : (s.xs ++ frmX x).take N = s.xs ++ (frmX x).take (N - s.xs.length) := by rw [List.take_append, List.take_of_length_le hsn]
          rw [ht]
          by_cases hfull : N = s.xs.length + (frmX x).length
          · right
            have hop := opens_eq (xs := DB ++ [x]) (r := []) (fun y hy => by
              rcases List.mem_append.1 hy with h | h
              · exact hf y h
              · rw [List.mem_singleton.1 h]; exact fx) Byt.nil nil_none
            rw [List.append_nil, List.flatMap_append, List.flatMap_singleton] at hop
            rw [hfull, Nat.add_sub_cancel_left, List.take_length, e1, hop, doAll_snoc, e2]
          · left
            have hq : (frmX x).drop (N - s.xs.length) ≠ [] := fun e => by
              have h3 := congrArg List.length e
              rw [List.length_drop] at h3
              simp at h3
              omega
            have hop := opens_eq (xs := DB) (r := (frmX x).take (N - s.xs.length)) hf ((frmX_byt fx).take _) (part_none fx (List.take_append_drop _ _).symm hq)
            rw [← e1] at hop
            rw [hop, e2]
    · right
      have ec : comS s x = (appE s.xs.length (frmX x).length s.ro s.fu, { s with fu := burn s.fu, hd := true }) := by
        unfold comS; rw [if_neg (fun f => f hc), if_neg (by rw [hd]; decide), if_pos ha]
      rw [ec]
      refine ⟨hc, ha, ?_, rfl, fun N h1 h2 => ?_⟩
      · show appE _ _ _ _ ≠ 1
        unfold appE
        split
        · decide
        · split <;> decide
      · exact .inl ((crash_log hL' N h1 h2).elim id id)
  · left
    refine ⟨hc, ?_⟩
    unfold comS
    rw [if_pos hc]
theorem jw_fuse {W w : World} {j b p : Nat} {o : Option Nat} {s : JS} (h : JW W w j b p o s) {n : Int} (h0 : 0 ≤ n) (h1 : n ≤ 9223372036854775807) :
    Calls Tryd.prog 23 #[.pointer (some ⟨p, 0, none⟩), .int .i64 n] w fun e w' => e = .returned (.int .i64 0) ∧ JW W w' j b p o { s with fu := n } ∧ Keep (foot p o) w w' := by
  refine (tfuse p s.xs s.sy s.ro s.fu n o w h.tape).mono ?_
  rintro e w1 ⟨rfl, ht, hk⟩
  have e1 : fuseE n = 0 := by unfold fuseE; rw [if_neg (by omega)]
  have e2 : fuseN n s.fu = n := by unfold fuseN; rw [if_neg (by omega)]
  rw [e2] at ht
  refine ⟨by rw [e1], ⟨h.bel.trans (hk.below h.bel.size (fun k hk => (h.ft k hk).1)), h.glob, ⟨h.ok.srt, h.ok.kv, h.ok.byt, h.ok.len, h.ok.r0, h.ok.r1, by show -1 ≤ n; omega, h1, h.ok.y0, h.ok.y1, h.ok.ll, h.ok.nn⟩, ht, ?_, h.own, h.ft⟩, hk⟩
  exact h.jat.keep hk (fun hf => (h.ft _ hf).2.1 rfl) (fun hf => (h.ft _ hf).2.2 rfl) (fun g hg _ hf => hg.2.1 hf)
/-- what a journal's memory leaves free -/
def Sj (w : World) (j b p : Nat) (o : Option Nat) (g : Nat) : Prop := g < w.heap.size ∧ ¬ foot p o g ∧ g ≠ j ∧ g ≠ b
theorem Sj.more {w w' : World} {j b p : Nat} {o : Option Nat} {g : Nat} (h : Sj w j b p o g) (hs : w.heap.size ≤ w'.heap.size) : Sj w' j b p o g := ⟨Nat.lt_of_lt_of_le h.1 hs, h.2⟩
theorem Sj.com {w w' : World} {j b p : Nat} {o o' : Option Nat} {g : Nat} (h : Sj w j b p o g) (hs : w.heap.size ≤ w'.heap.size) (ho : o' = o ∨ ∃ g, o' = some g ∧ w.heap.size ≤ g) : Sj w' j b p o' g :=
  ⟨Nat.lt_of_lt_of_le h.1 hs, fun hf => by
    rcases foot_new ho hf with h1 | h1
    · exact h.2.1 h1
    · have := h.1; omega, h.2.2⟩
theorem HL.com {w w' : World} {j b p : Nat} {o o' : Option Nat} {v : Value} {X : List PairD} (h : HL (Sj w j b p o) w v X) (hk : Keep (fun k => foot p o k ∨ k = j ∨ k = b) w w') (ho : o' = o ∨ ∃ g, o' = some g ∧ w.heap.size ≤ g) : HL (Sj w' j b p o') w' v X :=
  (h.keep hk (fun g hg hf => by
    rcases hf with hf | hf | hf
    · exact hg.2.1 hf
    · exact hg.2.2.1 hf
    · exact hg.2.2.2 hf)).mono (fun g hg => hg.com hk.size ho)
theorem HL.below {w w' : World} {j b p : Nat} {o : Option Nat} {v : Value} {X : List PairD} (h : HL (Sj w j b p o) w v X) (hb : Below w.heap.size w w') : HL (Sj w' j b p o) w' v X := (h.more hb).mono (fun g hg => hg.more hb.size)
/-- 'after' of held ones -/
theorem pafterH {W w : World} {j b p : Nat} {o : Option Nat} {s : JS} {q : Option Addr} {c : Nat} {X : List PairD} {B : BatchD} (hJ : JW W w j b p o s) (h : HL (Sj w j b p o) w (.slice q X.length c) X) (hq : X = [] → q = none) (hl : X.length ≤ 100000000000) (hB : BatOk W B) (hbn : B.puts.n ≤ 100000) :
    Calls Tryd.prog 25 #[.slice q X.length c, .agg (batCs B).toArray] w fun e w' => ∃ q' c' Y, e = .returned (.slice q' Y.length c') ∧ HL (Sj w' j b p o) w' (.slice q' Y.length c') Y ∧ Y.map pairX = doK (X.map pairX) (batX B) ∧ Y.length ≤ X.length + B.puts.n ∧ Below w.heap.size w w' := by
  obtain ⟨o1, hR, ho1, hP⟩ := h
  refine (pafter X q c o1 B w hR hq hl (hB.below hJ.bel) hbn).mono ?_
  rintro e w1 ⟨v, o', rfl, hR', ho', hb⟩
  obtain ⟨q', c', rfl, _⟩ := hR'.form
  refine ⟨q', c', aftD X B B.dels.n, rfl, ⟨o', hR', fun g hg => ?_, fun y hy => ?_⟩, aft_do X B, aftD_len X B _, hb⟩
  · have h1 := ho' g hg
    have h2 := hJ.tape.lt
    have h3 := hJ.jat.lt
    exact ⟨hR'.lt g hg, fun hf => by have := h2 g hf; omega, by omega, by omega⟩
  · rcases aftD_mem X B _ y hy with h1 | ⟨i, hi, rfl⟩
    · exact ((hP y h1).keep (Keep.of_below (X := fun _ => False) hb) (fun _ _ h => h)).1 |> fun _ => ⟨(hP y h1).1, ⟨((hP y h1).keep (Keep.of_below (X := fun _ => False) hb) (fun _ _ h => h)).2.1.1, (hP y h1).2.1.2⟩, fun h0 q hq => ((hP y h1).2.2 h0 q hq).more hb.size⟩
    · obtain ⟨_, _, _, _, _, hok⟩ := hB.1.2.2.2 i hi
      refine ⟨hok.1, (hok.2.below hJ.bel).below hb, fun h0 q hq => ?_⟩
      have hlt := hok.2.1.there q hq h0
      have hs := hJ.bel.size
      have hs2 := hb.size
      exact ⟨by omega, fun hf => by have := (hJ.ft _ hf).1; omega, by have := hJ.own.1; omega, by have := hJ.own.2; omega⟩
end Go.Proofs.YtbjbjgfjaopibaaDoor
end
