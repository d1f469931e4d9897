/- The law RiceBits. -/
import Derived.Test.YtfdfplblobihaaaReadB
import Derived.Test.YtfdfplblobihaaaRiceOpen
import Derived.Deep.LoopGhost
namespace Go.Proofs.Ytfdfplblobihaaa
open Go Go.RowKit
set_option linter.unusedSimpArgs false
set_option linter.unusedVariables false

/-- a writer of one's own -/
def Own1 (W w : World) (p : Nat) (l : List Bool) : Prop := ∃ o, WAt w p l o ∧ (∀ k, foot p o k → W.heap.size ≤ k) ∧ Below W.heap.size W w
theorem Own1.at {W w : World} {p : Nat} {l : List Bool} (h : Own1 W w p l) : ∃ o, WAt w p l o ∧ ∀ w' l', Grew w w' p l' o → Own1 W w' p l' := by
  obtain ⟨o, h1, h2, h3⟩ := h
  refine ⟨o, h1, fun w' l' g => ?_⟩
  obtain ⟨o', g1, g2, g3⟩ := g
  refine ⟨o', g1, fun k e => ?_, h3.trans (g3.below h3.size h2)⟩
  rcases e with e | e
  · exact h2 k (.inl e)
  · rcases g2 k e with e | e
    · exact h2 k (.inr e)
    · exact Nat.le_trans h3.size e
theorem Own1.more {W w w' : World} {p : Nat} {l : List Bool} (h : Own1 W w p l) (hb : Below w.heap.size w w') : Own1 W w' p l := by
  obtain ⟨o, h1, h2, h3⟩ := h
  exact ⟨o, h1.keep (X := fun _ => False) (Keep.of_below hb) (fun _ _ h => h), h2, h3.trans (hb.mono h3.size)⟩
theorem o_bits {W w : World} {p : Nat} {l : List Bool} (n C : Nat) (h : Own1 W w p l) (hl : l.length ≤ 1099511000000) (hn : n < 18446744073709551616) (hC : C ≤ 64) : Calls Try.prog 10 #[.pointer (some ⟨p, 0, none⟩), .int .u64 (n : Int), .int .i64 (C : Int)] w fun e w' => e = .returned (.int .i64 0) ∧ Own1 W w' p (l ++ bitsOf n C) := by
  obtain ⟨o, h1, h2⟩ := h.at
  refine (cbits p l n C o w h1 (by omega) hn).mono fun e w' ⟨e1, e2⟩ => ⟨by rw [e1, show bitsE (C : Int) = 0 from if_neg (by omega)], h2 _ _ ?_⟩
  rw [show l ++ bitsOf n C = bitsL l n C from by unfold bitsL; rw [if_neg (by omega), Int.toNat_natCast]]
  exact e2
theorem o_bit {W w : World} {p : Nat} {l : List Bool} (b : Bool) (h : Own1 W w p l) (hl : l.length ≤ 1099511000000) : Calls Try.prog 8 #[.pointer (some ⟨p, 0, none⟩), .bool b] w fun e w' => e = .returned (.int .i64 0) ∧ Own1 W w' p (l ++ [b]) := by
  obtain ⟨o, h1, h2⟩ := h.at
  exact (cbit p l b o w h1 (by omega)).mono fun e w' ⟨e1, e2⟩ => ⟨e1, h2 _ _ e2⟩
theorem o_bytes {W w : World} {p : Nat} {l : List Bool} (h : Own1 W w p l) (hl : l.length ≤ 1099511000000) : Calls Try.prog 15 #[.pointer (some ⟨p, 0, none⟩)] w fun e w' => ∃ q c o', e = .returned (.slice q (pack l).length c) ∧ Row w' 5 (.slice q (pack l).length c) (pack l) o' ∧ Own1 W w' p l := by
  obtain ⟨o, h1, h2⟩ := h.at
  refine (cbytes p l o w h1 (by omega)).mono fun e w' ⟨q, c, o', e1, e2, e3, e4⟩ => ⟨q, c, o', e1, e2, h.more e4⟩
/-- a writer and a reader -/
def RW (W w : World) (p r : Nat) (l s : List Bool) : Prop := RdAt w r s ∧ (∃ o, WAt w p l o ∧ (∀ k, foot p o k → W.heap.size ≤ k ∧ k ≠ r)) ∧ Below W.heap.size W w ∧ W.heap.size ≤ r
theorem RW.start {W w w' : World} {p r : Nat} {l s : List Bool} (h : Own1 W w p l) (hr : RdAt w' r s) (hr2 : w.heap.size ≤ r) (hb : Below w.heap.size w w') : RW W w' p r l s := by
  obtain ⟨o, h1, h2, h3⟩ := h
  have lt := h1.lt
  exact ⟨hr, ⟨o, h1.keep (X := fun _ => False) (Keep.of_below hb) (fun _ _ h => h), fun k e => ⟨h2 k e, by have := lt k e; omega⟩⟩, h3.trans (hb.mono h3.size), Nat.le_trans h3.size hr2⟩
theorem RW.more {W w w' : World} {p r : Nat} {l s : List Bool} (h : RW W w p r l s) (hb : Below w.heap.size w w') : RW W w' p r l s := by
  obtain ⟨h1, ⟨o, h2, h3⟩, h4, h5⟩ := h
  exact ⟨h1.below hb, ⟨o, h2.keep (X := fun _ => False) (Keep.of_below hb) (fun _ _ h => h), h3⟩, h4.trans (hb.mono h4.size), h5⟩
theorem RW.read {W w w' : World} {p r : Nat} {l s s' : List Bool} (h : RW W w p r l s) (hr : RdAt w' r s') (hk : Keep (fun k => k = r) w w') : RW W w' p r l s' := by
  obtain ⟨h1, ⟨o, h2, h3⟩, h4, h5⟩ := h
  exact ⟨hr, ⟨o, h2.keep hk (fun k e => (h3 k e).2), h3⟩, h4.trans (hk.below h4.size (fun k e => by rw [e]; exact h5)), h5⟩
theorem RW.own {W w : World} {p r : Nat} {l s : List Bool} (h : RW W w p r l s) : Own1 W w p l := by
  obtain ⟨h1, ⟨o, h2, h3⟩, h4, h5⟩ := h
  exact ⟨o, h2, fun k e => (h3 k e).1, h4⟩
def cnt (x : Int) : Nat := (x % 18446744073709551616 % 65).toNat
theorem cnt_eq (x : Int) : wrap64 ((IntKind.u64.wrap x).tmod 65) = (cnt x : Int) := by
  have hx : IntKind.u64.wrap x = x % 18446744073709551616 := by rfl
  have h0 : 0 ≤ x % 18446744073709551616 := Int.emod_nonneg _ (by decide)
  rw [hx, Int.tmod_eq_emod_of_nonneg h0]
  unfold wrap64 cnt; omega
theorem cnt_le (x : Int) : cnt x ≤ 64 := by unfold cnt; omega
theorem catb_snoc (B : Nat → List Bool) (l t : List Bool) (j n : Nat) (h : j < n) (e : l ++ catb B j (n - j) = t) : (l ++ B j) ++ catb B (j + 1) (n - (j + 1)) = t := by
  rw [← e, show n - j = (n - (j + 1)) + 1 from by omega, catb, List.append_assoc]
theorem and_mask (n K : Nat) (hn : n < 18446744073709551616) (hK : K ≤ 63) : bits .and .u64 (n : Int) (2 ^ K - 1) = ((n % 2 ^ K : Nat) : Int) := by
  have h1 : 1 ≤ 2 ^ K := Nat.one_le_two_pow
  have h2 : 2 ^ K ≤ 2 ^ 63 := Nat.pow_le_pow_right (by decide) hK
  have e : ((2 : Int) ^ K - 1) = ((2 ^ K - 1 : Nat) : Int) := by rw [Int.natCast_sub h1, Int.natCast_pow]; rfl
  rw [e, u64_and_nat _ _ hn (by omega), Nat.and_two_pow_sub_one_eq_mod]
theorem pow_lt (K : Nat) (hK : K ≤ 63) : (1 : Int) ≤ 2 ^ K ∧ (2 : Int) ^ K ≤ 9223372036854775808 := by
  have h1 : 1 ≤ 2 ^ K := Nat.one_le_two_pow
  have h2 : 2 ^ K ≤ 2 ^ 63 := Nat.pow_le_pow_right (by decide) hK
  have e : (2 : Int) ^ K = ((2 ^ K : Nat) : Int) := by rw [Int.natCast_pow]; rfl
  rw [e]; omega
set_option maxRecDepth 100000 in
set_option maxHeartbeats 6400000 in
theorem bits_walk (a0 : Option Addr) (len cap : Nat) (O C : Nat → Int) (N : Nat → Nat) (W : World) (hD : DosIn W a0 len O C N) (hcap : len ≤ cap) (hlen : cap ≤ 9223372036854775807) :
    Calls Try.prog 4 #[.slice a0 len cap] W fun e w' => e = .returned (.bool true) ∧ Below W.heap.size W w' := by
  have PN := Lib.hid (cnew W)
  obtain ⟨n, hn⟩ : ∃ n, n = min len 40 := ⟨_, rfl⟩
  have hn1 : min (len : Int) 40 = (n : Int) := by omega
  have hn2 : n ≤ 40 := by omega
  have hn3 : n ≤ len := by omega
  have hn4 : n ≤ cap := by omega
  have HD := Lib.hid hD
  clear hD hn
  go_enter Try.func4, Try.ntmps4
  go_wp2_with fail
  refine PN.out.mono ?_
  rintro e w1 ⟨p, rfl, t1, hp, hb⟩
  have I0 := Lib.hid (show Own1 W w1 p [] from ⟨none, t1, fun k e => (by rcases e with e | e; exact e ▸ hp; cases e), hb⟩)
  clear t1 hp hb
  obtain ⟨B, hB⟩ : ∃ B : Nat → List Bool, B = fun j => bitsOf (N j) (cnt (C j)) := ⟨_, rfl⟩
  have HBB := Lib.hid hB
  clear hB
  go_upto_region 3 with fail
  go_wp2
  go_loopg [20] n (fun gh i wx => ∃ (j : Nat) (l : List Bool), j ≤ n ∧ i = .int .i64 j ∧ gh = n - j ∧ Hid (Own1 W wx p l ∧ l ++ catb B j (n - j) = catb B 0 n ∧ l.length ≤ j * 64))
  case atStart => exact ⟨0, [], by omega, rfl, rfl, I0.out, rfl, by simp⟩
  case round =>
    clear I0 PN
    obtain ⟨j, l, hj, rfl, hg, J⟩ := hrel
    have HG := Lib.hid hg
    clear hg
    have hlb : l.length ≤ 1099511000000 := by have := J.out.2.2; omega
    by_cases hlt : j < n
    · obtain ⟨b, o3, rfl, d1, d2, d3, hnn, d4⟩ := (HD.out.below (by obtain ⟨o, _, _, h⟩ := J.out.1; exact h)) j (by omega)
      have hBj : B j = bitsOf (N j) (cnt (C j)) := by rw [HBB.out]
      have HBJ := Lib.hid hBj
      clear hBj
      generalize O j = op at *
      generalize C j = cc at *
      generalize N j = nn at *
      have e1 := cnt_eq cc
      have T0 := Lib.hid (J.out.1.more ((Below.refl _ _).alloc (Nat.le_refl _) (.cells #[.int .i64 op, .int .i64 cc, .int .u64 (nn : Int)] 31)))
      have B0 := Lib.hid (Blk.new wr #[.int .i64 op, .int .i64 cc, .int .u64 (nn : Int)] 31)
      go_upto_region 6 with fail
      generalize wr.alloc (.cells #[.int .i64 op, .int .i64 cc, .int .u64 (nn : Int)] 31) = wB at *
      generalize wr.heap.size = g at *
      have cb := B0.out.cell
      clear d1 d2 d3
      go_wp2_with fail
      rw [e1]
      refine (o_bits nn (cnt cc) T0.out hlb hnn (cnt_le cc)).mono ?_
      rintro e w2 ⟨rfl, t2⟩
      have T2 := Lib.hid t2
      clear t2
      go_wp2
      go_roundg (n - (j + 1))
      case measure => rw [HG.out]; omega
      case rel =>
        refine ⟨j + 1, _, by omega, rfl, rfl, T2.out, ?_, ?_⟩
        · rw [← HBJ.out]; exact catb_snoc B l _ j n hlt J.out.2.1
        · have := J.out.2.2
          have := cnt_le cc
          rw [List.length_append, bitsOf_length]; omega
    · obtain rfl : j = n := by omega
      have hL : l = catb B 0 j := by have := J.out.2.1; rw [Nat.sub_self, catb, List.append_nil] at this; exact this
      have HL := Lib.hid hL
      clear hL
      have PB := Lib.hid (o_bytes J.out.1 hlb)
      go_wp2_with fail
      refine PB.out.mono ?_
      rintro e w2 ⟨q, c2, o2, rfl, r2, t2⟩
      have T2 := Lib.hid t2
      have PO := Lib.hid (vopen q c2 o2 (pack l) w2 r2 (pack_range l) (by rw [pack_length]; have := J.out.2.2; unfold nby; omega))
      clear t2 r2
      go_wp2_with fail
      refine PO.out.mono ?_
      rintro e w3 ⟨r, rfl, hr, hr2, hb⟩
      rw [unpack_pack] at hr
      obtain ⟨pad, hpad⟩ : ∃ pad : List Bool, pad = List.replicate (8 * nby l.length - l.length) false := ⟨_, rfl⟩
      have hpl : pad.length < 8 := by rw [hpad, List.length_replicate]; exact pad_lt l
      rw [← hpad] at hr
      have S0 := Lib.hid (RW.start T2.out hr hr2 hb)
      have HPL := Lib.hid hpl
      clear hr hr2 hb hpad hpl T2 PO PB
      go_wp2
      go_loopg [40] j (fun gh i wx => ∃ (m : Nat) (s : List Bool), m ≤ j ∧ i = .int .i64 m ∧ gh = j - m ∧ Hid (RW W wx p r l s ∧ s = catb B m (j - m) ++ pad))
      case atStart => exact ⟨0, _, by omega, rfl, rfl, S0.out, by rw [Nat.sub_zero, ← HL.out]⟩
      case round =>
        clear S0 HG J
        obtain ⟨m, s, hm, rfl, hg, J⟩ := hrel
        have HG := Lib.hid hg
        clear hg
        by_cases hlt : m < j
        · obtain ⟨b, o3, rfl, d1, d2, d3, hnn, d4⟩ := (HD.out.below J.out.1.2.2.1) m (by omega)
          have hBj : B m = bitsOf (N m) (cnt (C m)) := by rw [HBB.out]
          have HBJ := Lib.hid hBj
          clear hBj
          generalize O m = op at *
          generalize C m = cc at *
          generalize N m = nn at *
          have e1 := cnt_eq cc
          have T0 := Lib.hid (J.out.1.more ((Below.refl _ _).alloc (Nat.le_refl _) (.cells #[.int .i64 op, .int .i64 cc, .int .u64 (nn : Int)] 31)))
          have B0 := Lib.hid (Blk.new wr #[.int .i64 op, .int .i64 cc, .int .u64 (nn : Int)] 31)
          have hgr : wr.heap.size ≠ r := by have := J.out.1.1.lt; omega
          go_upto_region 13 with fail
          generalize wr.alloc (.cells #[.int .i64 op, .int .i64 cc, .int .u64 (nn : Int)] 31) = wB at *
          generalize wr.heap.size = g at *
          have cb := B0.out.cell
          clear d1 d2 d3
          go_upto_region 14 with fail
          rw [e1]
          clear e1
          have hc64 := cnt_le cc
          generalize cnt cc = K at *
          have hs : s = bitsOf nn K ++ (catb B (m + 1) (j - (m + 1)) ++ pad) := by
            rw [J.out.2, show j - m = (j - (m + 1)) + 1 from by omega, catb, HBJ.out, List.append_assoc]
          have hlen := bitsOf_length nn K
          have PV := vbits r s K wB T0.out.1 hc64 (by rw [hs, List.length_append, hlen]; omega)
          rw [hs, List.take_append_of_le_length (by omega), List.take_of_length_le (by omega), valOf_bitsOf, List.drop_append_of_le_length (by omega), List.drop_of_length_le (by omega), List.nil_append] at PV
          have PV := Lib.hid PV
          have HT := Lib.hid T0.out
          clear hs hlen
          by_cases hK : K = 64
          · subst hK
            have hV : nn % 2 ^ 64 = nn := Nat.mod_eq_of_lt hnn
            rw [hV] at PV
            go_wp2_with fail
            refine PV.out.mono ?_
            rintro e w5 ⟨rfl, hr, hk⟩
            have R5 := Lib.hid ((HT.out.read hr hk).more (Below.refl _ _).drew)
            have c5 := ((hk.blk B0.out hgr).drew).cell
            clear hr hk cb
            go_wp2
            go_region
            go_wp2
            go_roundg (j - (m + 1))
            case measure => rw [HG.out]; omega
            case rel => exact ⟨m + 1, _, by omega, rfl, rfl, R5.out, rfl⟩
          · have hK3 : K ≤ 63 := by omega
            have dK : decide ((K : Int) < 64) = true := decide_eq_true (by omega)
            have eK : ((K : Int) == 64) = false := beq_false_of_ne (by omega)
            have hand := and_mask nn K hnn hK3
            have hpw := pow_lt K hK3
            generalize nn % 2 ^ K = V at *
            go_wp2_with fail
            refine PV.out.mono ?_
            rintro e w5 ⟨rfl, hr, hk⟩
            have R5 := Lib.hid ((HT.out.read hr hk).more (Below.refl _ _).drew)
            have c5 := ((hk.blk B0.out hgr).drew).cell
            clear hr hk cb
            go_wp2
            go_region
            go_wp2
            go_roundg (j - (m + 1))
            case measure => rw [HG.out]; omega
            case rel => exact ⟨m + 1, _, by omega, rfl, rfl, R5.out, rfl⟩
        · obtain rfl : m = j := by omega
          have hs : s = pad := by have := J.out.2; rw [Nat.sub_self, catb, List.nil_append] at this; exact this
          have PL := Lib.hid (vleft r s wr J.out.1.1)
          have h8 : decide ((s.length : Int) < 8) = true := decide_eq_true (by have := HPL.out; rw [hs]; omega)
          have h82 : s.length < 8 := by have := HPL.out; rw [hs]; omega
          have P1 := Lib.hid (o_bit true (J.out.1.more (Below.refl _ _).drew).own hlb)
          have HJ := J
          clear J hs
          go_wp2_with fail
          refine PL.out.mono ?_
          rintro e w6 ⟨rfl, rfl⟩
          go_wp2_with fail
          refine P1.out.mono ?_
          rintro e w7 ⟨rfl, h7⟩
          have H7 := Lib.hid h7
          clear h7
          go_wp2
          go_ret
          exact ⟨rfl, by obtain ⟨_, _, _, h⟩ := H7.out; exact h⟩
end Go.Proofs.Ytfdfplblobihaaa
