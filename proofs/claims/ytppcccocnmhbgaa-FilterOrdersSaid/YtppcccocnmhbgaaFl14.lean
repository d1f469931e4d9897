import Derived.Test.YtppcccocnmhbgaaFl13
section
/- SipHash, the document's: take, Sum. -/
namespace Go.Proofs.Ytppcccocnmhbgaa
open Go Go.RowKit
set_option linter.unusedSimpArgs false
set_option linter.unusedVariables false
set_option maxRecDepth 100000

set_option maxHeartbeats 3200000 in
theorem rstake (g : Nat) (s : Sip) (m : B64) (w : World) (h : Blk w g s.cells 142) :
    Calls Try.prog 103 #[.pointer (some ⟨g, 0, none⟩), .int .u64 (lv m)] w fun e w' => e = .returned (.tuple #[]) ∧ Blk w' g (sipTake s m).cells 142 ∧ Keep (fun k => k = g) w w' := by
  have XOR := lv_xor
  have c3 : w.cell? ⟨g, 3, none⟩ = some (.int .u64 (lv s.d)) := h.cell 3
  have f3 := h.free 3
  have HB1 : Hid (Blk (w.setCell ⟨g, 3, none⟩ (.int .u64 (lv (s.d ^^^ m)))) g (⟨s.a, s.b, s.c, s.d ^^^ m⟩ : Sip).cells 142) := h.set 3 _
  have HK1 := Lib.hid ((Keep.refl (fun k => k = g) w).set (p := ⟨g, 3, none⟩) (.inl rfl) (.int .u64 (lv (s.d ^^^ m))))
  clear h
  go_enter Try.func103, Try.ntmps103
  go_upto_region 1 with fail
  generalize w.setCell ⟨g, 3, none⟩ (.int .u64 (lv (s.d ^^^ m))) = W1 at HB1 HK1 ⊢
  clear c3 f3
  have P1 := Lib.hid (rsround g _ W1 HB1.out)
  go_wp2_with fail
  refine P1.out.mono ?_
  rintro e W2 ⟨rfl, hb2, hk2⟩
  have P2 := Lib.hid (rsround g _ W2 hb2)
  have HK2 := Lib.hid (HK1.out.trans hk2)
  clear hb2 hk2
  go_wp2_with fail
  refine P2.out.mono ?_
  rintro e W3 ⟨rfl, hb3, hk3⟩
  have HK3 := Lib.hid (HK2.out.trans hk3)
  have HFIN : Hid (⟨(sipRound (sipRound ⟨s.a, s.b, s.c, s.d ^^^ m⟩)).a ^^^ m, (sipRound (sipRound ⟨s.a, s.b, s.c, s.d ^^^ m⟩)).b, (sipRound (sipRound ⟨s.a, s.b, s.c, s.d ^^^ m⟩)).c, (sipRound (sipRound ⟨s.a, s.b, s.c, s.d ^^^ m⟩)).d⟩ = sipTake s m) := Lib.hid rfl
  generalize sipRound (sipRound ⟨s.a, s.b, s.c, s.d ^^^ m⟩) = u at *
  have c0 : W3.cell? ⟨g, 0, none⟩ = some (.int .u64 (lv u.a)) := hb3.cell 0
  have f0 := hb3.free 0
  have HB5 : Hid (Blk (W3.setCell ⟨g, 0, none⟩ (.int .u64 (lv (u.a ^^^ m)))) g (⟨u.a ^^^ m, u.b, u.c, u.d⟩ : Sip).cells 142) := hb3.set 0 _
  have HK5 := Lib.hid (HK3.out.set (p := ⟨g, 0, none⟩) (.inl rfl) (.int .u64 (lv (u.a ^^^ m))))
  clear hb3 hk3
  go_wp2
  go_end0
  exact ⟨rfl, by rw [← HFIN.out]; exact HB5.out, HK5.out⟩
theorem chunk_get (ys : List Int) (q j : Nat) (hj : j < 8) : ((ys.drop (8 * q)).take 8).getD j 0 = ys.getD (8 * q + j) 0 := by
  rw [List.getD_eq_getElem?_getD, List.getD_eq_getElem?_getD, List.getElem?_take, if_pos hj, List.getElem?_drop]
theorem last_word' (ys : List Int) (hr : ∀ y ∈ ys, 0 ≤ y ∧ y ≤ 255) : bw (leN (ys.drop (8 * (ys.length / 8)))) ||| bw (ys.length % 256 * 2 ^ 56) = sipLast ys := by
  rw [BitVec.or_comm]; exact last_word ys hr
set_option maxHeartbeats 6400000 in
theorem rsip (k0 k1 : B64) (ys : List Int) (q : Option Addr) (c : Nat) (w : World) (hy : Lib.BytesIn w q ys.length ys) (hr : ∀ y ∈ ys, 0 ≤ y ∧ y ≤ 255) (hl : ys.length ≤ 140737488355328) :
    Calls Try.prog 73 #[.int .u64 (lv k0), .int .u64 (lv k1), .slice q ys.length c] w fun e w' => e = .returned (.int .u64 (lv (sipS k0 k1 ys))) ∧ Below w.heap.size w w' := by
  have X0 : bits .xor .u64 (lv k0) 8317987319222330741 = lv (k0 ^^^ 0x736f6d6570736575#64) := by rw [← mask0]; exact lv_xor k0 _
  have X1 : bits .xor .u64 (lv k1) 7237128888997146477 = lv (k1 ^^^ 0x646f72616e646f6d#64) := by rw [← mask1]; exact lv_xor k1 _
  have X2 : bits .xor .u64 (lv k0) 7816392313619706465 = lv (k0 ^^^ 0x6c7967656e657261#64) := by rw [← mask2]; exact lv_xor k0 _
  have X3 : bits .xor .u64 (lv k1) 8387220255154660723 = lv (k1 ^^^ 0x7465646279746573#64) := by rw [← mask3]; exact lv_xor k1 _
  have BN := Lib.hid (Blk.new w #[.int .u64 (lv (k0 ^^^ 0x736f6d6570736575#64)), .int .u64 (lv (k1 ^^^ 0x646f72616e646f6d#64)), .int .u64 (lv (k0 ^^^ 0x6c7967656e657261#64)), .int .u64 (lv (k1 ^^^ 0x7465646279746573#64))] 142)
  have K0 := Lib.hid ((Below.refl w.heap.size w).alloc (Nat.le_refl _) (.cells #[.int .u64 (lv (k0 ^^^ 0x736f6d6570736575#64)), .int .u64 (lv (k1 ^^^ 0x646f72616e646f6d#64)), .int .u64 (lv (k0 ^^^ 0x6c7967656e657261#64)), .int .u64 (lv (k1 ^^^ 0x7465646279746573#64))] 142))
  have HY := Lib.hid (And.intro hy (And.intro hr hl))
  obtain ⟨n, hn⟩ : ∃ n, n = ys.length := ⟨_, rfl⟩
  rw [← hn] at hl ⊢
  have HN := Lib.hid hn
  clear hy hr hn
  go_enter Try.func73, Try.ntmps73
  go_upto_region 2 with fail
  generalize w.alloc (.cells #[.int .u64 (lv (k0 ^^^ 0x736f6d6570736575#64)), .int .u64 (lv (k1 ^^^ 0x646f72616e646f6d#64)), .int .u64 (lv (k0 ^^^ 0x6c7967656e657261#64)), .int .u64 (lv (k1 ^^^ 0x7465646279746573#64))] 142) = W at *
  generalize hgw : w.heap.size = g at *
  have HB : Hid (Blk W g (sipInit k0 k1).cells 142) := Lib.hid BN.out
  clear X0 X1 X2 X3 BN
  obtain ⟨s0, hs0⟩ : ∃ s0, s0 = sipInit k0 k1 := ⟨_, rfl⟩
  rw [← hs0] at HB
  have HS0 := Lib.hid hs0
  clear hs0
  have M2 : ∀ wx : World, Keep (fun k => k = g) W wx → Lib.BytesIn wx q ys.length ys := fun wx hk =>
    bytes_keep (bytes_keep HY.out.1 (Keep.of_below (X := fun _ => False) (by rw [hgw]; exact K0.out)) (fun _ _ _ h => h)) hk (fun h0 a ha e => by have := bytes_lt HY.out.1 h0 a ha; omega)
  have HM2 := Lib.hid M2
  clear M2
  go_wp2
  go_loopg [8, 23] n (fun gh m i wx => ∃ (k t : Nat), k ≤ n ∧ m = .int .u64 (t : Int) ∧ i = .int .i64 (k : Int) ∧ gh = n - k ∧ Hid (t = leN (((ys.drop (8 * (k / 8))).take 8).take (k % 8)) ∧ Blk wx g (sipWords s0 ys (k / 8)).cells 142 ∧ Keep (fun k => k = g) W wx))
  case atStart => exact ⟨0, 0, Nat.zero_le _, rfl, rfl, rfl, rfl, HB.out, Keep.refl _ _⟩
  case round =>
    obtain ⟨k, t, hk, rfl, rfl, hg, HR⟩ := hrel
    have HGK := Lib.hid hg
    clear hg
    by_cases hlt : k < n
    · obtain ⟨pb, po, rfl, hcl⟩ := (HM2.out wr HR.out.2.2).at (by rw [← HN.out]; omega)
      have cb := hcl k (by rw [← HN.out]; exact hlt)
      obtain ⟨j, hj⟩ : ∃ j, j = k % 8 := ⟨_, rfl⟩
      obtain ⟨d, hd⟩ : ∃ d, d = k / 8 := ⟨_, rfl⟩
      rw [← hj, ← hd] at HR
      have hkd : k = 8 * d + j := by omega
      have hj8 : j < 8 := by omega
      have hrc : ∀ y ∈ (ys.drop (8 * d)).take 8, 0 ≤ y ∧ y ≤ 255 := fun y hy => HY.out.2.1 y (List.mem_of_mem_drop (List.mem_of_mem_take hy))
      have hlc : j < ((ys.drop (8 * d)).take 8).length := by rw [List.length_take, List.length_drop, ← HN.out]; omega
      have hl8 : ((ys.drop (8 * d)).take 8).length ≤ 8 := by rw [List.length_take]; omega
      have hst := le_step _ hrc j hlc hl8
      have hx := getD_rng hrc j
      rw [chunk_get ys d j hj8, ← hkd] at hst hx
      generalize ys.getD k 0 = x at *
      rw [← HR.out.1] at hst
      have h7 : j = 7 → leN (((ys.drop (8 * d)).take 8).take (j + 1)) = leN ((ys.drop (8 * d)).take 8) := fun h => by rw [List.take_of_length_le (by omega)]
      have hub : leN ((ys.drop (8 * d)).take 8) < 18446744073709551616 := by
        have := leN_lt _ hrc
        exact Nat.lt_of_lt_of_le this (show 256 ^ ((ys.drop (8 * d)).take 8).length ≤ 256 ^ 8 from Nat.pow_le_pow_right (by decide) hl8)
      have hlvb := lv_bw _ hub
      have hword : sipTake (sipWords s0 ys d) (bw (leN ((ys.drop (8 * d)).take 8))) = sipWords s0 ys (d + 1) := rfl
      generalize hu : leN (((ys.drop (8 * d)).take 8).take (j + 1)) = u at *
      generalize leN ((ys.drop (8 * d)).take 8) = z at *
      have HU := Lib.hid hu
      have HJ := Lib.hid (And.intro hj (And.intro hd hkd))
      have HW := Lib.hid hword
      have H7 := Lib.hid h7
      obtain ⟨hx0, hx1⟩ := hx
      have m4 : IntKind.i64.wrap ((k : Int).tmod 8) = (j : Int) := by rw [Int.tmod_eq_emod_of_nonneg (by omega), IntKind.wrap_i64]; omega
      have m4t : (k : Int).tmod 8 = (j : Int) := by rw [Int.tmod_eq_emod_of_nonneg (by omega)]; omega
      have a2 : IntKind.i64.wrap (8 * (j : Int)) = 8 * (j : Int) := by rw [IntKind.wrap_i64]; omega
      have a3 : IntKind.i64.wrap (j : Int) = (j : Int) := by rw [IntKind.wrap_i64]; omega
      have hsh : Op.shift .shl .u64 x .i64 (8 * (j : Int)) = pure (.int .u64 (IntKind.u64.wrap (x * 2 ^ (8 * j)))) := by
        rw [shift_shl .u64 .i64 x (8 * (j : Int)) (by omega) (by show (8 * (j : Int)) ≤ 64; omega), show (8 * (j : Int)).toNat = 8 * j from by omega]
      have hux : IntKind.u64.wrap x = x := IntWalk.u64_in _ (by omega)
      clear hcl hu hj hd hkd hword h7 hlc hl8 hrc hub
      rcases (by omega : j < 7 ∨ j = 7) with h | h
      · have e7 : ((j : Int) == 7) = false := by rw [beq_eq_false_iff_ne]; omega
        have n7 : ¬ ((j : Int) = 7) := by omega
        have hj2 : (k + 1) % 8 = j + 1 ∧ (k + 1) / 8 = d := by have := HJ.out; omega
        have HJ2 := Lib.hid hj2
        clear hj2 h hlvb HJ hj8
        go_wp2
        go_roundg (n - (k + 1))
        case measure => rw [HGK.out]; omega
        case rel => exact ⟨k + 1, u, hlt, rfl, rfl, rfl, by rw [HJ2.out.1, HJ2.out.2]; exact HU.out.symm, by rw [HJ2.out.2]; exact HR.out.2.1, HR.out.2.2⟩
      · have huz := H7.out h
        have e7 : ((j : Int) == 7) = true := by rw [beq_iff_eq]; omega
        have n7 : (j : Int) = 7 := by omega
        have HN7 := Lib.hid n7
        clear n7
        rw [huz, ← hlvb] at hst
        have PT := Lib.hid (rstake g (sipWords s0 ys d) (bw z) wr HR.out.2.1)
        have hj2 : (k + 1) % 8 = 0 ∧ (k + 1) / 8 = d + 1 := by have := HJ.out; omega
        have HJ2 := Lib.hid hj2
        clear hj2 huz HJ hj8 hlvb h
        generalize bw z = zz at *
        go_wp2_with fail
        refine PT.out.mono ?_
        rintro e w5 ⟨rfl, hb5, hk5⟩
        rw [HW.out] at hb5
        have H5 := Lib.hid (And.intro hb5 (HR.out.2.2.trans hk5))
        clear hb5 hk5
        go_wp2
        go_roundg (n - (k + 1))
        case measure => rw [HGK.out]; omega
        case rel => exact ⟨k + 1, 0, hlt, rfl, rfl, rfl, by rw [HJ2.out.1, List.take_zero]; rfl, by rw [HJ2.out.2]; exact H5.out.1, H5.out.2⟩
    · obtain rfl : k = n := by omega
      have hdl : (ys.drop (8 * (k / 8))).length = k % 8 := by rw [List.length_drop, ← HN.out]; omega
      have hchunk : ((ys.drop (8 * (k / 8))).take 8).take (k % 8) = ys.drop (8 * (k / 8)) := by
        rw [List.take_take, List.take_of_length_le (by omega)]
      rw [hchunk] at HR
      have hrt : ∀ y ∈ ys.drop (8 * (k / 8)), 0 ≤ y ∧ y ≤ 255 := fun y hy => HY.out.2.1 y (List.mem_of_mem_drop hy)
      have hw : leN (ys.drop (8 * (k / 8))) < 18446744073709551616 := by
        have := leN_lt _ hrt
        rw [hdl, pow256] at this
        exact Nat.lt_of_lt_of_le this (show 2 ^ (8 * (k % 8)) ≤ 2 ^ 64 from Nat.pow_le_pow_right (by decide) (by omega))
      have hlvb := lv_bw _ hw
      have hlast : bw (leN (ys.drop (8 * (k / 8)))) ||| bw (k % 256 * 2 ^ 56) = sipLast ys := by
        rw [HN.out]; exact last_word' ys HY.out.2.1
      have hE : IntKind.u64.wrap (((k % 256 : Nat) : Int) * 72057594037927936) = lv (bw (k % 256 * 2 ^ 56)) := by
        have := end_word (k % 256)
        rw [Nat.mod_mod] at this; exact this
      have PT := Lib.hid (rstake g (sipWords s0 ys (k / 8)) (bw (leN (ys.drop (8 * (k / 8)))) ||| bw (k % 256 * 2 ^ 56)) wr HR.out.2.1)
      have hfin : sipEnd (sipTake (sipWords s0 ys (k / 8)) (bw (leN (ys.drop (8 * (k / 8)))) ||| bw (k % 256 * 2 ^ 56))) = sipS k0 k1 ys := by
        rw [hlast, HS0.out, HN.out]; rfl
      have HFIN := Lib.hid hfin
      have KV := Lib.hid HR.out.2.2
      have ht : (t : Int) = lv (bw (leN (ys.drop (8 * (k / 8))))) := by rw [hlvb, HR.out.1]
      rw [ht]
      clear ht HR hdl hchunk hrt hw hlvb hlast hfin
      have m5 : IntKind.i64.wrap ((k : Int).tmod 256) = ((k % 256 : Nat) : Int) := by rw [Int.tmod_eq_emod_of_nonneg (by omega), IntKind.wrap_i64]; omega
      have m5t : (k : Int).tmod 256 = ((k % 256 : Nat) : Int) := by rw [Int.tmod_eq_emod_of_nonneg (by omega)]; omega
      have m6 : IntKind.u64.wrap ((k % 256 : Nat) : Int) = ((k % 256 : Nat) : Int) := IntWalk.u64_in _ (by omega)
      generalize bw (k % 256 * 2 ^ 56) = E at *
      generalize bw (leN (ys.drop (8 * (k / 8)))) = z at *
      generalize sipWords s0 ys (k / 8) = sk at *
      generalize k % 256 = r at *
      have OR := lv_or
      go_wp2_with fail
      refine PT.out.mono ?_
      rintro e W2 ⟨rfl, B1, k1x⟩
      have K1 := KV.out.trans k1x
      generalize sipTake sk (z ||| E) = T at *
      have XF : bits .xor .u64 (lv T.c) 255 = lv (T.c ^^^ 0xff#64) := lv_xor T.c 0xff#64
      have c2 : W2.cell? ⟨g, 2, none⟩ = some (.int .u64 (lv T.c)) := B1.cell 2
      have f2 := B1.free 2
      have HB2 : Hid (Blk (W2.setCell ⟨g, 2, none⟩ (.int .u64 (lv (T.c ^^^ 0xff#64)))) g (⟨T.a, T.b, T.c ^^^ 0xff#64, T.d⟩ : Sip).cells 142) := B1.set 2 _
      have HK2 := Lib.hid (K1.set (p := ⟨g, 2, none⟩) (.inl rfl) (.int .u64 (lv (T.c ^^^ 0xff#64))))
      clear K1 k1x B1 OR PT KV
      go_upto_region 13 with fail
      generalize W2.setCell ⟨g, 2, none⟩ (.int .u64 (lv (T.c ^^^ 0xff#64))) = W3 at HB2 HK2 ⊢
      clear c2 f2 XF
      obtain ⟨t0, ht⟩ : ∃ t : Sip, t = ⟨T.a, T.b, T.c ^^^ 0xff#64, T.d⟩ := ⟨_, rfl⟩
      rw [← ht] at HB2
      have HE2 : Hid ((roundsS t0 4).a ^^^ (roundsS t0 4).b ^^^ (roundsS t0 4).c ^^^ (roundsS t0 4).d = sipS k0 k1 ys) := Lib.hid (by rw [← HFIN.out, ht]; rfl)
      clear ht HFIN
      go_wp2
      go_loopg [60] 4 (fun gh i wx => ∃ j : Nat, j ≤ 4 ∧ i = .int .i64 (j : Int) ∧ gh = 4 - j ∧ Hid (Blk wx g (roundsS t0 j).cells 142 ∧ Keep (fun k => k = g) W wx))
      case atStart => exact ⟨0, Nat.zero_le _, rfl, rfl, HB2.out, HK2.out⟩
      case round =>
        obtain ⟨j, hj, rfl, hg2, HR2⟩ := hrel
        have HG2 := Lib.hid hg2
        clear hg2
        by_cases hlt2 : j < 4
        · have PR := Lib.hid (rsround g _ wr HR2.out.1)
          go_wp2_with fail
          refine PR.out.mono ?_
          rintro e w5 ⟨rfl, hb5, hk5⟩
          have H6 := Lib.hid (And.intro (blk_cells hb5 (show (sipRound (roundsS t0 j)).cells = (roundsS t0 (j + 1)).cells from rfl)) (HR2.out.2.trans hk5))
          clear hb5 hk5
          go_wp2
          go_roundg (4 - (j + 1))
          case measure => rw [HG2.out]; omega
          case rel => exact ⟨j + 1, hlt2, rfl, rfl, H6.out.1, H6.out.2⟩
        · obtain rfl : j = 4 := by omega
          have XOR := lv_xor
          have KF := Lib.hid (K0.out.trans ((HR2.out.2.drew).below (B := g) (by have := HB.out.lt; omega) (fun k h => by rw [h]; exact Nat.le_refl _)))
          have B5 := HR2.out.1
          generalize roundsS t0 4 = u at *
          have x0 : wr.cell? ⟨g, 0, none⟩ = some (.int .u64 (lv u.a)) := B5.cell 0
          have x1 : wr.cell? ⟨g, 1, none⟩ = some (.int .u64 (lv u.b)) := B5.cell 1
          have x2 : wr.cell? ⟨g, 2, none⟩ = some (.int .u64 (lv u.c)) := B5.cell 2
          have x3 : wr.cell? ⟨g, 3, none⟩ = some (.int .u64 (lv u.d)) := B5.cell 3
          clear B5 HR2
          go_wp2
          refine wp_region_held_drew (S := fun w' => w' = wr.drew) (by kernel_rfl) rfl (fun hS => ?_)
          refine wpAnyH_take (i := 0) (oi := ⟨_, _, _, _, _, _⟩) (v := ?_) rfl (by kernel_rfl) (by kernel_rfl) (by kernel_rfl) (fun _ _ _ h => h) (Or.inl ⟨by rfl, ?_⟩) hS ?_
          rotate_left
          · intro w0 hs; subst hs; go_simp; try (with_reducible rfl)
          try simp only [Act.put, List.setIfInBounds_toArray, List.set_cons_zero, List.set_cons_succ]
          refine wpAnyH_take (i := 1) (oi := ⟨_, _, _, _, _, _⟩) (v := ?_) rfl (by kernel_rfl) (by kernel_rfl) (by kernel_rfl) (fun _ _ _ h => h) (Or.inl ⟨by rfl, ?_⟩) hS ?_
          rotate_left
          · intro w0 hs; subst hs; go_simp; try (with_reducible rfl)
          try simp only [Act.put, List.setIfInBounds_toArray, List.set_cons_zero, List.set_cons_succ]
          refine wpAnyH_take (i := 2) (oi := ⟨_, _, _, _, _, _⟩) (v := ?_) rfl (by kernel_rfl) (by kernel_rfl) (by kernel_rfl) (fun _ _ _ h => h) (Or.inl ⟨by rfl, ?_⟩) hS ?_
          rotate_left
          · intro w0 hs; subst hs; go_simp; try (with_reducible rfl)
          try simp only [Act.put, List.setIfInBounds_toArray, List.set_cons_zero, List.set_cons_succ]
          refine wpAnyH_take (i := 3) (oi := ⟨_, _, _, _, _, _⟩) (v := ?_) rfl (by kernel_rfl) (by kernel_rfl) (by kernel_rfl) (fun _ _ _ h => h) (Or.inl ⟨by rfl, ?_⟩) hS ?_
          rotate_left
          · intro w0 hs; subst hs; go_simp; try (with_reducible rfl)
          try simp only [Act.put, List.setIfInBounds_toArray, List.set_cons_zero, List.set_cons_succ]
          refine wpAnyH_take (i := 4) (oi := ⟨_, _, _, _, _, _⟩) (v := ?_) rfl (by kernel_rfl) (by kernel_rfl) (by kernel_rfl) (fun _ _ _ h => h) (Or.inl ⟨by rfl, ?_⟩) hS ?_
          rotate_left
          · intro w0 hs; subst hs; go_simp; try (with_reducible rfl)
          try simp only [Act.put, List.setIfInBounds_toArray, List.set_cons_zero, List.set_cons_succ]
          refine wpAnyH_take (i := 5) (oi := ⟨_, _, _, _, _, _⟩) (v := ?_) rfl (by kernel_rfl) (by kernel_rfl) (by kernel_rfl) (fun _ _ _ h => h) (Or.inl ⟨by rfl, ?_⟩) hS ?_
          rotate_left
          · intro w0 hs; subst hs; go_simp; try (with_reducible rfl)
          try simp only [Act.put, List.setIfInBounds_toArray, List.set_cons_zero, List.set_cons_succ]
          refine wpAnyH_take (i := 6) (oi := ⟨_, _, _, _, _, _⟩) (v := ?_) rfl (by kernel_rfl) (by kernel_rfl) (by kernel_rfl) (fun _ _ _ h => h) (Or.inl ⟨by rfl, ?_⟩) hS ?_
          rotate_left
          · intro w0 hs; subst hs; go_simp; try (with_reducible rfl)
          try simp only [Act.put, List.setIfInBounds_toArray, List.set_cons_zero, List.set_cons_succ]
          refine wpAnyH_take (i := 7) (oi := ⟨_, _, _, _, _, _⟩) (v := ?_) rfl (by kernel_rfl) (by kernel_rfl) (by kernel_rfl) (fun _ _ _ h => h) (Or.inl ⟨by rfl, ?_⟩) hS ?_
          rotate_left
          · intro w0 hs; subst hs; go_simp; try (with_reducible rfl)
          try simp only [Act.put, List.setIfInBounds_toArray, List.set_cons_zero, List.set_cons_succ]
          refine wpAnyH_take (i := 8) (oi := ⟨_, _, _, _, _, _⟩) (v := ?_) rfl (by kernel_rfl) (by kernel_rfl) (by kernel_rfl) (fun _ _ _ h => h) (Or.inl ⟨by rfl, ?_⟩) hS ?_
          rotate_left
          · intro w0 hs; subst hs; go_simp; try (with_reducible rfl)
          try simp only [Act.put, List.setIfInBounds_toArray, List.set_cons_zero, List.set_cons_succ]
          refine wpAnyH_take (i := 9) (oi := ⟨_, _, _, _, _, _⟩) (v := ?_) rfl (by kernel_rfl) (by kernel_rfl) (by kernel_rfl) (fun _ _ _ h => h) (Or.inl ⟨by rfl, ?_⟩) hS ?_
          rotate_left
          · intro w0 hs; subst hs; go_simp; try (with_reducible rfl)
          try simp only [Act.put, List.setIfInBounds_toArray, List.set_cons_zero, List.set_cons_succ]
          refine wpAnyH_take (i := 10) (oi := ⟨_, _, _, _, _, _⟩) (v := ?_) rfl (by kernel_rfl) (by kernel_rfl) (by kernel_rfl) (fun _ _ _ h => h) (Or.inl ⟨by rfl, ?_⟩) hS ?_
          rotate_left
          · intro w0 hs; subst hs; go_simp; try (with_reducible rfl)
          try simp only [Act.put, List.setIfInBounds_toArray, List.set_cons_zero, List.set_cons_succ]
          refine wpAnyH_take (i := 11) (oi := ⟨_, _, _, _, _, _⟩) (v := ?_) rfl (by kernel_rfl) (by kernel_rfl) (by kernel_rfl) (fun _ _ _ h => h) (Or.inl ⟨by rfl, ?_⟩) hS ?_
          rotate_left
          · intro w0 hs; subst hs; go_simp; try (with_reducible rfl)
          try simp only [Act.put, List.setIfInBounds_toArray, List.set_cons_zero, List.set_cons_succ]
          refine wpAnyH_take (i := 12) (oi := ⟨_, _, _, _, _, _⟩) (v := ?_) rfl (by kernel_rfl) (by kernel_rfl) (by kernel_rfl) (fun _ _ _ h => h) (Or.inl ⟨by rfl, ?_⟩) hS ?_
          rotate_left
          · intro w0 hs; subst hs; go_simp; try (with_reducible rfl)
          try simp only [Act.put, List.setIfInBounds_toArray, List.set_cons_zero, List.set_cons_succ]
          refine wpAnyH_take (i := 13) (oi := ⟨_, _, _, _, _, _⟩) (v := ?_) rfl (by kernel_rfl) (by kernel_rfl) (by kernel_rfl) (fun _ _ _ h => h) (Or.inl ⟨by rfl, ?_⟩) hS ?_
          rotate_left
          · intro w0 hs; subst hs; go_simp; try (with_reducible rfl)
          try simp only [Act.put, List.setIfInBounds_toArray, List.set_cons_zero, List.set_cons_succ]
          refine wpAnyH_take (i := 14) (oi := ⟨_, _, _, _, _, _⟩) (v := ?_) rfl (by kernel_rfl) (by kernel_rfl) (by kernel_rfl) (fun _ _ _ h => h) (Or.inl ⟨by rfl, ?_⟩) hS ?_
          rotate_left
          · intro w0 hs; subst hs; go_simp; try (with_reducible rfl)
          try simp only [Act.put, List.setIfInBounds_toArray, List.set_cons_zero, List.set_cons_succ]
          refine wpAnyH_take (i := 15) (oi := ⟨_, _, _, _, _, _⟩) (v := ?_) rfl (by kernel_rfl) (by kernel_rfl) (by kernel_rfl) (fun _ _ _ h => h) (Or.inl ⟨by rfl, ?_⟩) hS ?_
          rotate_left
          · intro w0 hs; subst hs; go_simp; try (with_reducible rfl)
          try simp only [Act.put, List.setIfInBounds_toArray, List.set_cons_zero, List.set_cons_succ]
          refine wpAnyH_take (i := 16) (oi := ⟨_, _, _, _, _, _⟩) (v := ?_) rfl (by kernel_rfl) (by kernel_rfl) (by kernel_rfl) (fun _ _ _ h => h) (Or.inl ⟨by rfl, ?_⟩) hS ?_
          rotate_left
          · intro w0 hs; subst hs; go_simp; try (with_reducible rfl)
          try simp only [Act.put, List.setIfInBounds_toArray, List.set_cons_zero, List.set_cons_succ]
          refine wpAnyH_take (i := 17) (oi := ⟨_, _, _, _, _, _⟩) (v := ?_) rfl (by kernel_rfl) (by kernel_rfl) (by kernel_rfl) (fun _ _ _ h => h) (Or.inl ⟨by rfl, ?_⟩) hS ?_
          rotate_left
          · intro w0 hs; subst hs; go_simp; try (with_reducible rfl)
          try simp only [Act.put, List.setIfInBounds_toArray, List.set_cons_zero, List.set_cons_succ]
          refine wpAnyH_take (i := 18) (oi := ⟨_, _, _, _, _, _⟩) (v := ?_) rfl (by kernel_rfl) (by kernel_rfl) (by kernel_rfl) (fun _ _ _ h => h) (Or.inl ⟨by rfl, ?_⟩) hS ?_
          rotate_left
          · intro w0 hs; subst hs; go_simp; try (with_reducible rfl)
          try simp only [Act.put, List.setIfInBounds_toArray, List.set_cons_zero, List.set_cons_succ]
          refine wpAnyH_take (i := 19) (oi := ⟨_, _, _, _, _, _⟩) (v := ?_) rfl (by kernel_rfl) (by kernel_rfl) (by kernel_rfl) (fun _ _ _ h => h) (Or.inl ⟨by rfl, ?_⟩) hS ?_
          rotate_left
          · intro w0 hs; subst hs; go_simp; try (with_reducible rfl)
          try simp only [Act.put, List.setIfInBounds_toArray, List.set_cons_zero, List.set_cons_succ]
          refine wpAnyH_done (by kernel_rfl) ?_ _
          clear hS
          go_wp2
          go_ret
          refine ⟨?_, by rw [hgw]; exact KF.out⟩
          rw [HE2.out]
          rfl
end Go.Proofs.Ytppcccocnmhbgaa
end
