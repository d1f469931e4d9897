import Derived.Test.YtppcccocnmhbgaaFl11
section
/- SipHash, the program's: Sum. -/
namespace Go.Proofs.Ytppcccocnmhbgaa
open Go Go.RowKit
set_option linter.unusedSimpArgs false
set_option linter.unusedVariables false
set_option maxRecDepth 100000

theorem sip_range {w : World} {g : Nat} {s : Sip} {t : TypeId} (h : Blk w g s.cells t) : w.rangeAt g 0 s.cells.toList := fun j v hv => by
  rw [Nat.zero_add, h.cell]; simpa using hv
theorem bytes_in_drop' {w : World} {b o n : Nat} {xs : List Int} (hc : ∀ i, i < n → w.cell? ⟨b, o + i, none⟩ = some (.int .u8 (xs.getD i 0))) (hn : xs.length = n) (k : Nat) (p : Option Addr) (hp : k < n → p = some ⟨b, o + k, none⟩) : Lib.BytesIn w p (xs.drop k).length (xs.drop k) := fun h0 => by
  rw [List.length_drop] at h0
  refine ⟨b, o + k, hp (by omega), fun i hi => ?_⟩
  rw [List.length_drop] at hi
  rw [Nat.add_assoc, hc (k + i) (by omega)]
  simp [List.getD_eq_getElem?_getD, List.getElem?_drop]
theorem blk_cells {w : World} {g : Nat} {c d : Array Value} {t : TypeId} (h : Blk w g c t) (e : c = d) : Blk w g d t := e ▸ h
def roundsS (s : Sip) : Nat → Sip
  | 0 => s
  | k + 1 => sipRound (roundsS s k)
theorem end_word (n : Nat) : IntKind.u64.wrap ((n : Int) * 2 ^ 56) = lv (bw (n % 256 * 2 ^ 56)) := by
  rw [lv_bw _ (by omega), IntKind.wrap_u64]; omega
theorem or_last (a b P : Nat) (hP : P = 2 ^ 56) (ha : a < 256) (hb : b < P) : BitVec.ofNat 64 (a * P) ||| BitVec.ofNat 64 b = BitVec.ofNat 64 (a * P + b) := by
  have h1 : a * P < 2 ^ 64 := by
    have : a * P < 256 * P := Nat.mul_lt_mul_of_pos_right ha (by rw [hP]; exact Nat.two_pow_pos _)
    rw [hP] at this ⊢
    exact Nat.lt_of_lt_of_le this (by decide)
  have h2 : a * P + b < 2 ^ 64 := by
    have : a * P + P ≤ 256 * P := by
      have := Nat.mul_le_mul_right P (show a + 1 ≤ 256 from ha)
      rw [Nat.add_mul, Nat.one_mul] at this; exact this
    have h3 : 256 * P = 2 ^ 64 := by subst hP; decide
    omega
  have h3 : b < 2 ^ 64 := Nat.lt_of_lt_of_le hb (by rw [hP]; decide)
  apply BitVec.eq_of_toNat_eq
  rw [BitVec.toNat_or, BitVec.toNat_ofNat, BitVec.toNat_ofNat, BitVec.toNat_ofNat, Nat.mod_eq_of_lt h1, Nat.mod_eq_of_lt h3, Nat.mod_eq_of_lt h2]
  subst hP
  have := Nat.two_pow_add_eq_or_of_lt hb a
  rw [Nat.mul_comm (2 ^ 56) a] at this
  exact this.symm
theorem last_word (ys : List Int) (hr : ∀ y ∈ ys, 0 ≤ y ∧ y ≤ 255) : bw (ys.length % 256 * 2 ^ 56) ||| bw (leN (ys.drop (8 * (ys.length / 8)))) = sipLast ys := by
  unfold sipLast bw
  have hd : (ys.drop (8 * (ys.length / 8))).length ≤ 7 := by rw [List.length_drop]; omega
  have hl := leN_lt (ys.drop (8 * (ys.length / 8))) (fun y hy => hr y (List.mem_of_mem_drop hy))
  have hl2 : leN (ys.drop (8 * (ys.length / 8))) < 2 ^ 56 := Nat.lt_of_lt_of_le hl (by
    rw [pow256]; exact Nat.pow_le_pow_right (by decide) (by omega))
  exact or_last _ _ _ rfl (Nat.mod_lt _ (by decide)) hl2
theorem mask0 : lv (0x736f6d6570736575#64) = 8317987319222330741 := by decide +kernel
theorem mask1 : lv (0x646f72616e646f6d#64) = 7237128888997146477 := by decide +kernel
theorem mask2 : lv (0x6c7967656e657261#64) = 7816392313619706465 := by decide +kernel
theorem mask3 : lv (0x7465646279746573#64) = 8387220255154660723 := by decide +kernel
set_option maxHeartbeats 6400000 in
theorem psip (k0 k1 : B64) (ys : List Int) (q : Option Addr) (c : Nat) (w : World) (hy : Lib.BytesIn w q ys.length ys) (hr : ∀ y ∈ ys, 0 ≤ y ∧ y ≤ 255) (hc : ys.length ≤ c) (hcm : c ≤ 9223372036854775807) (hl : ys.length ≤ 140737488355328) :
    Calls Try.prog 65 #[.int .u64 (lv k0), .int .u64 (lv k1), .slice q ys.length c] w fun e w' => e = .returned (.int .u64 (lv (sipS k0 k1 ys))) ∧ Below w.heap.size w w' := by
  have X0 : bits .xor .u64 (lv k0) 8317987319222330741 = lv (k0 ^^^ 0x736f6d6570736575#64) := by rw [← mask0]; exact lv_xor k0 _
  have X1 : bits .xor .u64 (lv k1) 7237128888997146477 = lv (k1 ^^^ 0x646f72616e646f6d#64) := by rw [← mask1]; exact lv_xor k1 _
  have X2 : bits .xor .u64 (lv k0) 7816392313619706465 = lv (k0 ^^^ 0x6c7967656e657261#64) := by rw [← mask2]; exact lv_xor k0 _
  have X3 : bits .xor .u64 (lv k1) 8387220255154660723 = lv (k1 ^^^ 0x7465646279746573#64) := by rw [← mask3]; exact lv_xor k1 _
  have L := two_blocks w #[.int .u64 8317987319222330741, .int .u64 7237128888997146477, .int .u64 7816392313619706465, .int .u64 8387220255154660723] #[.int .u64 (lv (k0 ^^^ 0x736f6d6570736575#64)), .int .u64 (lv (k1 ^^^ 0x646f72616e646f6d#64)), .int .u64 (lv (k0 ^^^ 0x6c7967656e657261#64)), .int .u64 (lv (k1 ^^^ 0x7465646279746573#64))] 128 128
  have hs2 : ((w.alloc (.cells #[.int .u64 8317987319222330741, .int .u64 7237128888997146477, .int .u64 7816392313619706465, .int .u64 8387220255154660723] 128)).alloc (.cells #[.int .u64 (lv (k0 ^^^ 0x736f6d6570736575#64)), .int .u64 (lv (k1 ^^^ 0x646f72616e646f6d#64)), .int .u64 (lv (k0 ^^^ 0x6c7967656e657261#64)), .int .u64 (lv (k1 ^^^ 0x7465646279746573#64))] 128)).heap.size = w.heap.size + 2 := by simp
  have HL := Lib.hid (And.intro L hs2)
  have HY := Lib.hid (And.intro hy (And.intro hr hl))
  have hE := end_word ys.length
  clear L hs2 hy hr
  obtain ⟨n, hn⟩ : ∃ n, n = ys.length := ⟨_, rfl⟩
  rw [← hn] at hE hc hl ⊢
  have HN := Lib.hid hn
  generalize hEE : bw (n % 256 * 2 ^ 56) = E at *
  have hE2 : IntKind.u64.wrap ((n : Int) * 72057594037927936) = lv E := hE
  have HE := Lib.hid hEE
  clear hn hEE
  go_enter Try.func65, Try.ntmps65
  go_upto_region 3 with fail
  generalize (w.alloc (.cells #[.int .u64 8317987319222330741, .int .u64 7237128888997146477, .int .u64 7816392313619706465, .int .u64 8387220255154660723] 128)).alloc (.cells #[.int .u64 (lv (k0 ^^^ 0x736f6d6570736575#64)), .int .u64 (lv (k1 ^^^ 0x646f72616e646f6d#64)), .int .u64 (lv (k0 ^^^ 0x6c7967656e657261#64)), .int .u64 (lv (k1 ^^^ 0x7465646279746573#64))] 128) = W at *
  generalize hgw : w.heap.size = wb at *
  have HB : Hid (Blk W (wb + 1) (sipInit k0 k1).cells 128 ∧ Below wb w W) := ⟨HL.out.1.2.1, HL.out.1.2.2⟩
  have HZ := Lib.hid HL.out.2
  clear X0 X1 X2 X3 HL
  obtain ⟨s0, hs0⟩ : ∃ s0, s0 = sipInit k0 k1 := ⟨_, rfl⟩
  rw [← hs0] at HB
  have HS0 := Lib.hid hs0
  clear hs0
  have OR := lv_or
  have XOR := lv_xor
  have M2 : ∀ wx : World, Keep (fun g => g = wb + 1) W wx → ∀ (p : Option Addr) (m : Nat) (xs : List Int), Lib.BytesIn w p m xs → Lib.BytesIn wx p m xs := fun wx hk p m xs hb =>
    bytes_keep (bytes_keep hb (Keep.of_below (X := fun _ => False) (by rw [hgw]; exact HB.out.2)) (fun _ _ _ h => h)) hk (fun h0 a ha e => by have := bytes_lt hb h0 a ha; omega)
  have HM2 := Lib.hid M2
  clear M2
  go_wp2
  go_loopg [2] (n / 8) (fun gh v wx => ∃ (k m : Nat) (p : Option Addr) (c' : Nat), m ≤ 140737488355328 ∧ m ≤ c' ∧ c' ≤ 9223372036854775807 ∧ v = .slice p m c' ∧ gh = n / 8 - k ∧ Hid (m + 8 * k = n ∧ Lib.BytesIn w p m (ys.drop (8 * k)) ∧ Blk wx (wb + 1) (sipWords s0 ys k).cells 128 ∧ Keep (fun g => g = wb + 1) W wx))
  case atStart => exact ⟨0, n, q, c, hl, hc, hcm, rfl, rfl, by omega, by rw [Nat.mul_zero, List.drop_zero, HN.out]; exact HY.out.1, HB.out.1, Keep.refl _ _⟩
  case round =>
    obtain ⟨k, m, p, c', hm, hmc, hcm', rfl, hg, HR⟩ := hrel
    have HGK := Lib.hid hg
    clear hg
    by_cases hlt : 8 ≤ m
    · obtain ⟨pb, po, rfl, hcl⟩ := HR.out.2.1.at (by omega)
      have hlen : (ys.drop (8 * k)).length = m := by rw [List.length_drop, ← HN.out]; have := HR.out.1; omega
      have ht8 : ((ys.drop (8 * k)).take 8).length = 8 := by rw [List.length_take]; omega
      have hrt : ∀ y ∈ (ys.drop (8 * k)).take 8, 0 ≤ y ∧ y ≤ 255 := fun y hy => HY.out.2.1 y (List.mem_of_mem_drop (List.mem_of_mem_take hy))
      have b8 : Lib.BytesIn w (some ⟨pb, po, none⟩) 8 ((ys.drop (8 * k)).take 8) := fun _ => ⟨pb, po, rfl, fun i hi => by
        rw [hcl i (by omega)]
        congr 2
        rw [List.getD_eq_getElem?_getD, List.getD_eq_getElem?_getD, List.getElem?_take, if_pos hi]⟩
      have PW := Lib.hid (fun (wx : World) (hk : Keep (fun g => g = wb + 1) W wx) => sword ((ys.drop (8 * k)).take 8) (some ⟨pb, po, none⟩) c' wx (by rw [ht8]; exact HM2.out wx hk _ _ _ b8) hrt (by rw [ht8]; exact Nat.le_refl _))
      rw [ht8] at PW
      have hw : leN ((ys.drop (8 * k)).take 8) < 18446744073709551616 := by
        have := leN_lt _ hrt
        rw [ht8] at this; exact this
      have hlvb := lv_bw _ hw
      generalize hz : leN ((ys.drop (8 * k)).take 8) = z at *
      rw [← hlvb] at PW
      have PT := Lib.hid (fun (wx : World) => ptake (sipWords s0 ys k) (bw z) wx)
      have hstep : sipTake (sipWords s0 ys k) (bw z) = sipWords s0 ys (k + 1) := by rw [← hz]; rfl
      have HST := Lib.hid hstep
      have HZZ := Lib.hid hz
      have hnext : ∀ p2, (8 < m → p2 = some ⟨pb, po + 8, none⟩) → Lib.BytesIn w p2 (m - 8) (ys.drop (8 * (k + 1))) := fun p2 hp => by
        have := bytes_in_drop' hcl hlen 8 p2 hp
        rw [List.drop_drop, show 8 * k + 8 = 8 * (k + 1) from by omega] at this
        have hl2 : (ys.drop (8 * (k + 1))).length = m - 8 := by rw [List.length_drop, ← HN.out]; have := HR.out.1; omega
        rw [hl2] at this; exact this
      have HNX := Lib.hid hnext
      have BV := Lib.hid HR.out.2.2.1
      have KV := Lib.hid HR.out.2.2.2
      clear hlen ht8 hrt b8 hw hlvb hz hstep hnext hcl
      generalize hsk : sipWords s0 ys k = sk at *
      have c8 : (8 : Int) ≤ (c' : Int) := by omega
      have m8 : (8 : Int) ≤ (m : Int) := by omega
      have HLD := Lib.hid (fun (w0 : World) (hs : Below wr.heap.size wr w0) => sip_range (BV.out.beyond hs))
      go_upto_region 5 with fail
      refine wp_region_last 5 (fun w' => Below wr.heap.size wr w') (by kernel_rfl) ((Below.refl _ _).drew) (fun hS => ?_)
      refine wpAnyL_take (i := 0) (oi := ⟨_, _, _, _, _, _⟩) (v := .agg sk.cells) rfl (by kernel_rfl) (by kernel_rfl) (by kernel_rfl) (by kernel_rfl) (fun _ _ _ h => h) (yieldsIf_load_mid (by rfl) 128 (.tmp 8) rfl (wb + 1) 0 rfl sk.cells.toList (.array 4 52) (fun w0 hs => HLD.out w0 hs) Try.underlying128 rfl (by kernel_rfl)) hS ?_
      try simp only [Act.put, List.setIfInBounds_toArray, List.set_cons_zero, List.set_cons_succ]
      refine wpAnyL_take (i := 1) (oi := ⟨_, _, _, _, _, _⟩) (v := ?_) rfl (by kernel_rfl) (by kernel_rfl) (by kernel_rfl) (by kernel_rfl) (fun _ _ _ h => h) (Or.inl ⟨by rfl, ?_⟩) hS ?_
      rotate_left
      · intro w0 hs; clear hs; go_simp; try (with_reducible rfl)
      try simp only [Act.put, List.setIfInBounds_toArray, List.set_cons_zero, List.set_cons_succ]
      refine wpAnyL_take (i := 2) (oi := ⟨_, _, _, _, _, _⟩) (v := ?_) rfl (by kernel_rfl) (by kernel_rfl) (by kernel_rfl) (by kernel_rfl) (fun _ _ _ h => h) (Or.inl ⟨by rfl, ?_⟩) hS ?_
      rotate_left
      · intro w0 hs; clear hs; go_simp; try (with_reducible rfl)
      try simp only [Act.put, List.setIfInBounds_toArray, List.set_cons_zero, List.set_cons_succ]
      refine wpAnyL_one (i := 3) (oi := ⟨_, _, _, _, _, _⟩) rfl (by kernel_rfl) (fun K hK => ?_)
      rw [if_pos (by rfl)]
      go_step
      refine (PW.out _ (KV.out.trans (Keep.of_below hS))).mono ?_
      rintro e v1 ⟨rfl, hv1⟩
      simp only []
      have hS' := (hS.trans (hv1.mono hS.size))
      refine hK.out _ _ (.inr hS') ?_
      clear hS hK
      have hS := hS'; clear hS'
      try simp only [Act.put, List.setIfInBounds_toArray, List.set_cons_zero, List.set_cons_succ]
      refine wpAnyL_one (i := 4) (oi := ⟨_, _, _, _, _, _⟩) rfl (by kernel_rfl) (fun K hK => ?_)
      rw [if_pos (by rfl)]
      go_step
      refine (PT.out _).mono ?_
      rintro e v2 ⟨rfl, hv2⟩
      simp only []
      have hS' := (hS.trans (hv2.mono hS.size))
      refine hK.out _ _ (.inr hS') ?_
      clear hS hK
      have hS := hS'; clear hS'
      try simp only [Act.put, List.setIfInBounds_toArray, List.set_cons_zero, List.set_cons_succ]
      refine wpAnyL_one (i := 5) (oi := ⟨_, _, _, _, _, _⟩) rfl (by kernel_rfl) (fun K hK => ?_)
      rw [if_pos (by rfl)]
      have BL := BV.out.beyond hS
      refine wp_store_mid 128 (.tmp 8) (.tmp 39) rfl (wb + 1) 0 (sipTake sk (bw z)).cells rfl rfl (by have := BL.there; exact this) (sip_info _) (sip_all _) ?_
      refine hK.out _ _ (.inl rfl) ?_
      clear hK
      try simp only [Act.put, List.setIfInBounds_toArray, List.set_cons_zero, List.set_cons_succ]
      refine wpAnyL_done (by kernel_rfl) ?_ _
      have HE5 := Lib.hid (And.intro hS BL)
      clear hS BL
      have m9 : ¬ c' = 8 ∨ c' = 8 := by omega
      have k1 := (KV.out.trans (Keep.of_below HE5.out.1)).trans (Keep.setCells (X := fun g => g = wb + 1) (g := wb + 1) (.inl rfl) (sipTake sk (bw z)).cells.toList 0 (Keep.refl _ _))
      have b0 := HE5.out.2.setAll (sipTake sk (bw z)).cells (sip_size2 _ _)
      have b1 := blk_cells b0 (congrArg Sip.cells HST.out)
      clear b0
      have HK1 := Lib.hid (And.intro b1 k1)
      clear b1 k1
      rcases m9 with h9 | h9
      · go_wp2
        go_roundg (n / 8 - (k + 1))
        case measure => rw [HGK.out]; have := HR.out.1; omega
        case rel =>
          have h1 := HNX.out (some ⟨pb, po + 8, none⟩) (fun _ => rfl)
          have h0 : m - 8 + 8 * (k + 1) = n := by have := HR.out.1; omega
          exact ⟨k + 1, m - 8, some ⟨pb, po + 8, none⟩, c' - 8, by omega, by omega, by omega, rfl, rfl, ⟨h0, h1, HK1.out.1, HK1.out.2⟩⟩
      · subst h9
        go_wp2
        go_roundg (n / 8 - (k + 1))
        case measure => rw [HGK.out]; have := HR.out.1; omega
        case rel =>
          have h1 := HNX.out (some ⟨pb, po, none⟩) (fun h => by omega)
          have hm8 : m - 8 = 0 := by omega
          rw [hm8] at h1
          have h0 : 0 + 8 * (k + 1) = n := by have := HR.out.1; omega
          exact ⟨k + 1, 0, some ⟨pb, po, none⟩, 0, by omega, by omega, by omega, rfl, rfl, ⟨h0, h1, HK1.out.1, HK1.out.2⟩⟩
    · have hk8 : k = n / 8 := by have := HR.out.1; omega
      have hlen : (ys.drop (8 * k)).length = m := by rw [List.length_drop, ← HN.out]; have := HR.out.1; omega
      have hrt : ∀ y ∈ ys.drop (8 * k), 0 ≤ y ∧ y ≤ 255 := fun y hy => HY.out.2.1 y (List.mem_of_mem_drop hy)
      have PW := Lib.hid (fun (wx : World) (hk : Keep (fun g => g = wb + 1) W wx) => sword (ys.drop (8 * k)) p c' wx (by rw [hlen]; exact HM2.out wx hk _ _ _ HR.out.2.1) hrt (by rw [hlen]; omega))
      rw [hlen] at PW
      have hw : leN (ys.drop (8 * k)) < 18446744073709551616 := by
        have := leN_lt _ hrt
        rw [hlen, pow256] at this
        exact Nat.lt_of_lt_of_le this (show 2 ^ (8 * m) ≤ 2 ^ 64 from Nat.pow_le_pow_right (by decide) (by omega))
      have hlvb := lv_bw _ hw
      have hlast : E ||| bw (leN (ys.drop (8 * k))) = sipLast ys := by
        rw [← HE.out, hk8, HN.out]; exact last_word ys HY.out.2.1
      generalize hz : leN (ys.drop (8 * k)) = z at *
      rw [← hlvb] at PW
      have PT := Lib.hid (fun (wx : World) => ptake (sipWords s0 ys k) (E ||| bw z) wx)
      have hfin : sipEnd (sipTake (sipWords s0 ys k) (E ||| bw z)) = sipS k0 k1 ys := by
        rw [hlast, hk8, HS0.out, HN.out]; rfl
      have HFIN := Lib.hid hfin
      have BV := Lib.hid HR.out.2.2.1
      have KV := Lib.hid HR.out.2.2.2
      clear hlen hrt hw hlvb hlast hz hfin hk8 HR
      generalize hsk : sipWords s0 ys k = sk at *
      have m8 : ¬ (8 : Int) ≤ (m : Int) := by omega
      have HLD := Lib.hid (fun (w0 : World) (hs : Below wr.heap.size wr w0) => sip_range (BV.out.beyond hs))
      go_upto_region 7 with fail
      refine wp_region_last 6 (fun w' => Below wr.heap.size wr w') (by kernel_rfl) ((Below.refl _ _).drew) (fun hS => ?_)
      refine wpAnyL_take (i := 0) (oi := ⟨_, _, _, _, _, _⟩) (v := .agg sk.cells) rfl (by kernel_rfl) (by kernel_rfl) (by kernel_rfl) (by kernel_rfl) (fun _ _ _ h => h) (yieldsIf_load_mid (by rfl) 128 (.tmp 8) rfl (wb + 1) 0 rfl sk.cells.toList (.array 4 52) (fun w0 hs => HLD.out w0 hs) Try.underlying128 rfl (by kernel_rfl)) hS ?_
      try simp only [Act.put, List.setIfInBounds_toArray, List.set_cons_zero, List.set_cons_succ]
      refine wpAnyL_take (i := 1) (oi := ⟨_, _, _, _, _, _⟩) (v := ?_) rfl (by kernel_rfl) (by kernel_rfl) (by kernel_rfl) (by kernel_rfl) (fun _ _ _ h => h) (Or.inl ⟨by rfl, ?_⟩) hS ?_
      rotate_left
      · intro w0 hs; clear hs; go_simp; try (with_reducible rfl)
      try simp only [Act.put, List.setIfInBounds_toArray, List.set_cons_zero, List.set_cons_succ]
      refine wpAnyL_take (i := 2) (oi := ⟨_, _, _, _, _, _⟩) (v := ?_) rfl (by kernel_rfl) (by kernel_rfl) (by kernel_rfl) (by kernel_rfl) (fun _ _ _ h => h) (Or.inl ⟨by rfl, ?_⟩) hS ?_
      rotate_left
      · intro w0 hs; clear hs; go_simp; try (with_reducible rfl)
      try simp only [Act.put, List.setIfInBounds_toArray, List.set_cons_zero, List.set_cons_succ]
      refine wpAnyL_one (i := 3) (oi := ⟨_, _, _, _, _, _⟩) rfl (by kernel_rfl) (fun K hK => ?_)
      rw [if_pos (by rfl)]
      go_step
      refine (PW.out _ (KV.out.trans (Keep.of_below hS))).mono ?_
      rintro e v1 ⟨rfl, hv1⟩
      simp only []
      have hS' := (hS.trans (hv1.mono hS.size))
      refine hK.out _ _ (.inr hS') ?_
      clear hS hK
      have hS := hS'; clear hS'
      try simp only [Act.put, List.setIfInBounds_toArray, List.set_cons_zero, List.set_cons_succ]
      refine wpAnyL_take (i := 4) (oi := ⟨_, _, _, _, _, _⟩) (v := ?_) rfl (by kernel_rfl) (by kernel_rfl) (by kernel_rfl) (by kernel_rfl) (fun _ _ _ h => h) (Or.inl ⟨by rfl, ?_⟩) hS ?_
      rotate_left
      · intro w0 hs; clear hs; go_simp; try (with_reducible rfl)
      try simp only [Act.put, List.setIfInBounds_toArray, List.set_cons_zero, List.set_cons_succ]
      refine wpAnyL_one (i := 5) (oi := ⟨_, _, _, _, _, _⟩) rfl (by kernel_rfl) (fun K hK => ?_)
      rw [if_pos (by rfl)]
      go_step
      refine (PT.out _).mono ?_
      rintro e v2 ⟨rfl, hv2⟩
      simp only []
      have hS' := (hS.trans (hv2.mono hS.size))
      refine hK.out _ _ (.inr hS') ?_
      clear hS hK
      have hS := hS'; clear hS'
      try simp only [Act.put, List.setIfInBounds_toArray, List.set_cons_zero, List.set_cons_succ]
      refine wpAnyL_one (i := 6) (oi := ⟨_, _, _, _, _, _⟩) rfl (by kernel_rfl) (fun K hK => ?_)
      rw [if_pos (by rfl)]
      have BL := BV.out.beyond hS
      refine wp_store_mid 128 (.tmp 8) (.tmp 47) rfl (wb + 1) 0 (sipTake sk (E ||| bw z)).cells rfl rfl (by have := BL.there; exact this) (sip_info _) (sip_all _) ?_
      refine hK.out _ _ (.inl rfl) ?_
      clear hK
      try simp only [Act.put, List.setIfInBounds_toArray, List.set_cons_zero, List.set_cons_succ]
      refine wpAnyL_done (by kernel_rfl) ?_ _
      have K1 := (KV.out.trans (Keep.of_below hS)).trans (Keep.setCells (X := fun g => g = wb + 1) (g := wb + 1) (.inl rfl) (sipTake sk (E ||| bw z)).cells.toList 0 (Keep.refl _ _))
      have B1 := BL.setAll (sipTake sk (E ||| bw z)).cells (sip_size2 _ _)
      generalize v2.setCells (wb + 1) 0 (sipTake sk (E ||| bw z)).cells.toList = W2 at *
      generalize sipTake sk (E ||| bw z) = T at *
      have XF : bits .xor .u64 (lv T.c) 255 = lv (T.c ^^^ 0xff#64) := XOR T.c 0xff#64
      have c2 : W2.cell? ⟨wb + 1, 2, none⟩ = some (.int .u64 (lv T.c)) := B1.cell 2
      have f2 := B1.free 2
      have HB2 : Hid (Blk (W2.setCell ⟨wb + 1, 2, none⟩ (.int .u64 (lv (T.c ^^^ 0xff#64)))) (wb + 1) (⟨T.a, T.b, T.c ^^^ 0xff#64, T.d⟩ : Sip).cells 128) := B1.set 2 _
      have HK2 := Lib.hid (K1.set (p := ⟨wb + 1, 2, none⟩) (.inl rfl) (.int .u64 (lv (T.c ^^^ 0xff#64))))
      clear hS BL K1 B1 XOR OR HLD PW PT BV KV
      go_upto_region 9 with fail
      generalize W2.setCell ⟨wb + 1, 2, none⟩ (.int .u64 (lv (T.c ^^^ 0xff#64))) = W3 at HB2 HK2 ⊢
      clear c2 f2 XF
      obtain ⟨t, ht⟩ : ∃ t : Sip, t = ⟨T.a, T.b, T.c ^^^ 0xff#64, T.d⟩ := ⟨_, rfl⟩
      rw [← ht] at HB2
      have HE2 : Hid ((roundsS t 4).a ^^^ (roundsS t 4).b ^^^ (roundsS t 4).c ^^^ (roundsS t 4).d = sipS k0 k1 ys) := Lib.hid (by rw [← HFIN.out, ht]; rfl)
      clear ht HFIN
      go_wp2
      go_loopg [52] 4 (fun gh i wx => ∃ j : Nat, j ≤ 4 ∧ i = .int .i64 (j : Int) ∧ gh = 4 - j ∧ Hid (Blk wx (wb + 1) (roundsS t j).cells 128 ∧ Keep (fun g => g = wb + 1) W wx))
      case atStart => exact ⟨0, Nat.zero_le _, rfl, rfl, HB2.out, HK2.out⟩
      case round =>
        obtain ⟨j, hj, rfl, hg2, HR2⟩ := hrel
        have HG2 := Lib.hid hg2
        clear hg2
        by_cases hlt2 : j < 4
        · have HST2 : Hid (sipRound (roundsS t j) = roundsS t (j + 1)) := Lib.hid rfl
          generalize roundsS t j = u at *
          have B5 := HR2.out.1
          have PR := Lib.hid (proundS u wr)
          go_wp2_with (refine wpl_load rfl 128 (.tmp 8) rfl rfl B5 Try.underlying128 (sip_info u) ?_)
          refine PR.out.mono ?_
          rintro e w5 ⟨rfl, hb5⟩
          have b5 := B5.beyond hb5
          have HK5 := Lib.hid (HR2.out.2.trans (Keep.of_below (X := fun g => g = wb + 1) hb5))
          have b6 := blk_cells (b5.setAll (sipRound u).cells (sip_size2 _ _)) (congrArg Sip.cells HST2.out)
          have k6 := HK5.out.trans (Keep.setCells (X := fun g => g = wb + 1) (g := wb + 1) (.inl rfl) (sipRound u).cells.toList 0 (Keep.refl _ w5))
          have H6 := Lib.hid (And.intro b6 k6)
          clear b6 k6 hb5 B5
          go_wp2_with (refine wpl_store rfl 128 (.tmp 8) (.tmp 55) rfl rfl rfl b5 (sip_size2 _ _) (sip_info _) (sip_all _) ?_)
          go_roundg (4 - (j + 1))
          case measure => rw [HG2.out]; omega
          case rel => exact ⟨j + 1, hlt2, rfl, rfl, H6.out.1, H6.out.2⟩
        · obtain rfl : j = 4 := by omega
          have XOR := lv_xor
          have B5 := HR2.out.1
          have KF := Lib.hid (HB.out.2.trans (HR2.out.2.below (B := wb) (by rw [HZ.out]; omega) (fun k h => by rw [h]; omega)))
          generalize roundsS t 4 = u at *
          have x0 : wr.cell? ⟨wb + 1, 0, none⟩ = some (.int .u64 (lv u.a)) := B5.cell 0
          have x1 : wr.cell? ⟨wb + 1, 1, none⟩ = some (.int .u64 (lv u.b)) := B5.cell 1
          have x2 : wr.cell? ⟨wb + 1, 2, none⟩ = some (.int .u64 (lv u.c)) := B5.cell 2
          have x3 : wr.cell? ⟨wb + 1, 3, none⟩ = some (.int .u64 (lv u.d)) := B5.cell 3
          clear B5 HR2
          go_wp2
          go_ret
          refine ⟨?_, by rw [hgw]; exact KF.out⟩
          rw [HE2.out]
          rfl
end Go.Proofs.Ytppcccocnmhbgaa
end
