/- The law RiceWrites. -/
import Derived.Test.YtfdfplblobihaaaRiceTwo
import Derived.Test.YtfdfplblobihaaaRiceOpen
import Derived.Test.YtfdfplblobihaaaRegion
import Derived.Deep.LoopGhost
namespace Go.Proofs.Ytfdfplblobihaaa
open Go Go.RowKit
set_option linter.unusedSimpArgs false
set_option linter.unusedVariables false

section
variable {w w' : World} {p r : Nat} {l m : List Bool} {F : Nat → Prop}
theorem ends_w (h : Two w p r l m F) (hl : l.length ≤ 1099511000064) : Calls Try.prog 15 #[.pointer (some ⟨p, 0, none⟩)] w fun e w' => ∃ q c o', e = .returned (.slice q (pack l).length c) ∧ Row w' 5 (.slice q (pack l).length c) (pack l) o' ∧ (∀ g, o' = some g → w.heap.size ≤ g) ∧ Below w.heap.size w w' := by
  obtain ⟨o, h1, _⟩ := h.wr
  exact cbytes p l o w h1 (by omega)
theorem ends_r (h : Two w p r l m F) (hl : m.length ≤ 1099511000000) : Calls Try.prog 16 #[.pointer (some ⟨r, 0, none⟩)] w fun e w' => ∃ g, e = .returned (.slice (some ⟨g, 0, none⟩) (pack m).length (pack m).length) ∧ Blk w' g (u8s (pack m)).toArray 5 ∧ w.heap.size ≤ g ∧ Below w.heap.size w w' := by
  obtain ⟨o, h1, _⟩ := h.rf
  exact rbytes r m o w h1 (by omega)
theorem eq_pack {q : Option Addr} {c d : Nat} {o : Option Nat} {g : Nat} {xs : List Int} (h : Row w 5 (.slice q xs.length c) xs o) (h2 : Blk w' g (u8s xs).toArray 5) (hb : Below w.heap.size w w') :
    Calls Try.prog 14 #[.slice q xs.length c, .slice (some ⟨g, 0, none⟩) xs.length d] w' fun e w2 => e = .returned (.bool true) ∧ w2 = w' := by
  obtain ⟨q', c', e, hb1, _⟩ := (h.keep (X := fun _ => False) (Keep.of_below hb) (fun _ _ h => h)).form
  have e1 : q = q' := by injection e
  subst e1
  have hb2 : Lib.BytesIn w' (some ⟨g, 0, none⟩) xs.length xs := fun h0 => ⟨g, 0, rfl, fun i hi => by
    rw [h2.cell, Nat.zero_add, List.getElem?_toArray]; exact u8s_get xs i hi⟩
  exact (Try.bytes_Equal_all q (some ⟨g, 0, none⟩) xs.length c xs.length d xs xs w' rfl rfl hb1 hb2).mono fun e w2 ⟨h1, h2⟩ => ⟨by rw [h1, beq_self_eq_true], h2⟩
def RInv (W wx : World) (p r : Nat) (l : List Bool) (F : Nat → Prop) (j : Nat) : Prop := Two wx p r l l F ∧ (∀ k, F k → W.heap.size ≤ k) ∧ Below W.heap.size W wx ∧ j ≤ 61 ∧ l.length ≤ j * 65568
theorem RInv.alloc {W wx : World} {j : Nat} (h : RInv W wx p r l F j) (x : Obj) : RInv W (wx.alloc x) p r l F j :=
  ⟨h.1.below ((Below.refl _ _).alloc (Nat.le_refl _) _), h.2.1, h.2.2.1.alloc h.2.2.1.size _, h.2.2.2⟩
theorem RInv.drew {W wx : World} {j : Nat} (h : RInv W wx p r l F j) : RInv W wx.drew p r l F j :=
  ⟨h.1.below (Below.refl _ _).drew, h.2.1, h.2.2.1.drew, h.2.2.2⟩
theorem RInv.next {W wx : World} {j : Nat} {l' : List Bool} (h : RInv W wx p r l F j) (hj : j ≤ 60) (hl : Left2 F wx w' p r l' l') (hn : l'.length ≤ l.length + 65568) : ∃ F', RInv W w' p r l' F' (j + 1) := by
  obtain ⟨F', t, k, s⟩ := hl
  obtain ⟨h1, h2, h3, h4, h5⟩ := h
  refine ⟨F', t, fun k e => ?_, h3.trans (k.below h3.size h2), by omega, by omega⟩
  rcases s k e with e | e
  · exact h2 k e
  · exact Nat.le_trans h3.size e
theorem pack_pos (l : List Bool) : (0 : Int) < ((pack (bitsL l 5 3)).length : Int) := by
  rw [pack_length]
  have : bitsL l 5 3 = l ++ bitsOf 5 3 := rfl
  rw [this]; simp [bitsOf_length, nby]; omega
theorem op_cases (x : Int) : ∃ M : Nat, M < 6 ∧ wrap64 ((IntKind.u64.wrap x).tmod 6) = (M : Int) := by
  have hx : IntKind.u64.wrap x = x % 18446744073709551616 := by rfl
  have h0 : 0 ≤ x % 18446744073709551616 := Int.emod_nonneg _ (by decide)
  rw [hx, Int.tmod_eq_emod_of_nonneg h0]
  refine ⟨(x % 18446744073709551616 % 6).toNat, by omega, ?_⟩
  unfold wrap64; omega
end
set_option maxRecDepth 100000 in
set_option maxHeartbeats 6400000 in
theorem writes_walk (a0 : Option Addr) (len cap : Nat) (O C : Nat → Int) (N : Nat → Nat) (W : World) (hD : DosIn W a0 len O C N) (hlen : len ≤ 9223372036854775807) :
    Calls Try.prog 3 #[.slice a0 len cap] W fun e w' => e = .returned (.bool true) ∧ Below W.heap.size W w' := by
  have PN := Lib.hid (cnew W)
  have HD := Lib.hid hD
  clear hD
  go_enter Try.func3, Try.ntmps3
  go_wp2_with fail
  refine PN.out.mono ?_
  rintro e w1 ⟨p, rfl, t1, hp, hb⟩
  have I0 := Lib.hid (show Two (w1.alloc (.cells #[.slice none 0 0] 28)) p w1.heap.size [] [] (fun k => foot p none k ∨ foot w1.heap.size none k) ∧ (∀ k, (foot p none k ∨ foot w1.heap.size none k) → W.heap.size ≤ k) ∧ Below W.heap.size W (w1.alloc (.cells #[.slice none 0 0] 28)) from by
    have lp := t1.lt p (.inl rfl)
    refine ⟨⟨none, none, t1.keep (X := fun _ => False) ((Keep.refl _ _).alloc _) (fun _ _ h => h), ⟨_, Blk.new _ _ _, RowV.nil _ _ _, fun h => by cases h⟩, ?_, fun k => Iff.rfl⟩, ?_, hb.alloc hb.size _⟩
    · rintro k (h | h) (h2 | h2)
      · omega
      · cases h2
      · cases h
      · cases h
    · rintro k ((rfl | h) | (rfl | h))
      · exact hp
      · cases h
      · exact hb.size
      · cases h)
  clear t1 hp hb
  go_wp2
  go_loopg [14] len (fun gh i wx => ∃ (j : Nat) (F : Nat → Prop) (l : List Bool), j ≤ len ∧ i = .int .i64 j ∧ gh = len - j ∧ Hid (RInv W wx p w1.heap.size l F j))
  case atStart => exact ⟨0, _, [], by omega, rfl, rfl, I0.out.1, I0.out.2.1, I0.out.2.2, by omega, by simp⟩
  case round =>
    clear I0 PN
    generalize w1.heap.size = r at *
    obtain ⟨j, F, l, hj, rfl, hg, J⟩ := hrel
    have HG := Lib.hid hg
    clear hg
    have hlb : l.length ≤ 1099511000000 := by have := J.out.2.2.2; omega
    by_cases hlt : j < len
    · obtain ⟨b, o3, rfl, d1, d2, d3, hnn, d4⟩ := (HD.out.below J.out.2.2.1) j hlt
      obtain ⟨M, hM, e1⟩ := op_cases (O j)
      generalize O j = op at *
      generalize C j = cc at *
      generalize N j = nn at *
      by_cases h60 : 60 < j
      · have d60 : decide ((60 : Int) < (j : Int)) = true := decide_eq_true (by omega)
        go_upto_region 18 with fail
        have J2 := Lib.hid (J.out.alloc (.cells #[.int .i64 op, .int .i64 cc, .int .u64 (nn : Int)] 31))
        generalize wr.alloc (.cells #[.int .i64 op, .int .i64 cc, .int .u64 (nn : Int)] 31) = wB at *
        clear J
        have J := J2
        clear J2
        have PB := Lib.hid (ends_w J.out.1 (by omega))
        go_wp2_with fail
        refine PB.out.mono ?_
        rintro e x1 ⟨q1, c1, o1, rfl, r1, ho1, hb1⟩
        have PR := Lib.hid (ends_r (J.out.1.below hb1) hlb)
        have R1 := Lib.hid r1
        have B1 := Lib.hid hb1
        clear r1 ho1 hb1
        go_wp2_with fail
        refine PR.out.mono ?_
        rintro e x2 ⟨g2, rfl, r2, _, hb2⟩
        have PE := Lib.hid (eq_pack (c := c1) (d := (pack l).length) R1.out r2 hb2)
        have B2 := Lib.hid (B1.out.trans (hb2.mono B1.out.size))
        clear r2 hb2
        go_wp2_with fail
        refine PE.out.mono ?_
        rintro e x3 ⟨rfl, rfl⟩
        have PW := Lib.hid (p_bits 5 3 (J.out.1.below B2.out) hlb (by decide))
        go_wp2_with fail
        refine PW.out.mono ?_
        rintro e x4 ⟨rfl, F4, t4, k4, s4⟩
        have PB4 := Lib.hid (ends_w t4 (Nat.le_trans (bitsL_len l 5 3) (by omega)))
        have BK := Lib.hid (J.out.2.2.1.trans ((B2.out.mono J.out.2.2.1.size).trans (k4.below (Nat.le_trans J.out.2.2.1.size B2.out.size) J.out.2.1)))
        clear t4 k4 s4
        rw [show bitsE 3 = 0 from rfl]
        go_wp2_with fail
        refine PB4.out.mono ?_
        rintro e x5 ⟨q5, c5, o5, rfl, _, _, hb5⟩
        have HB5 := Lib.hid hb5
        have hpos := pack_pos l
        clear hb5
        go_wp2
        go_ret
        exact ⟨by simp; omega, BK.out.trans (HB5.out.mono BK.out.size)⟩
      · have d60 : decide ((60 : Int) < (j : Int)) = false := decide_eq_false (by omega)
        have gF : ¬ F wr.heap.size := fun h => Nat.lt_irrefl _ (J.out.1.lt _ h)
        have K0 := Lib.hid ((Keep.refl F wr).alloc (.cells #[.int .i64 op, .int .i64 cc, .int .u64 (nn : Int)] 31))
        have B0 := Lib.hid (Blk.new wr #[.int .i64 op, .int .i64 cc, .int .u64 (nn : Int)] 31)
        go_upto_region 7 with fail
        have T0 := Lib.hid (J.out.alloc (.cells #[.int .i64 op, .int .i64 cc, .int .u64 (nn : Int)] 31)).1
        generalize wr.alloc (.cells #[.int .i64 op, .int .i64 cc, .int .u64 (nn : Int)] 31) = wB at *
        generalize hgw : wr.heap.size = g at *
        have hgs : wr.heap.size ≤ g := by omega
        clear hgw
        have lg := B0.out.lt
        have cb := B0.out.cell
        clear d1 d2 d3
        go_upto_region 9 with fail
        rw [e1]
        clear e1
        by_cases hM0 : M = 0
        · subst hM0
          go_wp2_with fail
          refine (p_bit _ T0.out hlb).mono ?_
          rintro e w1 ⟨rfl, F1, t1, k1, s1⟩
          have T1 := Lib.hid t1
          have K1 := Lib.hid k1
          have S1 := Lib.hid s1
          have C2 := (k1.cell (p := ⟨g, 2, none⟩) lg gF).trans (B0.out.cell 2)
          clear t1 k1 s1 cb
          go_wp2_with fail
          refine (q_bit _ T1.out hlb).mono ?_
          rintro e w2 ⟨rfl, hl2⟩
          have HL := Lib.hid hl2
          clear hl2
          go_wp2
          go_roundg (len - (j + 1))
          case measure => rw [HG.out]; omega
          case rel =>
            obtain ⟨F', I⟩ := J.out.next (by omega) (Left2.trans K0.out (fun k e => .inl e) (Left2.trans K1.out S1.out HL.out)) (by simp)
            exact ⟨j + 1, F', _, by omega, rfl, rfl, I⟩
        · have HTD := Lib.hid (show Two wB.drew p r l l F from T0.out.below (Below.refl _ _).drew)
          have C1 : wB.drew.cell? ⟨g, 1, none⟩ = some (.int .i64 cc) := B0.out.drew.cell 1
          have C2 : wB.drew.cell? ⟨g, 2, none⟩ = some (.int .u64 (nn : Int)) := B0.out.drew.cell 2
          have lgd : g < wB.drew.heap.size := lg
          have K0d := Lib.hid K0.out.drew
          clear cb
          by_cases hM1 : M = 1
          · subst hM1
            go_upto_region 14 with fail
            refine wp_region_held_drew (S := fun w' => w'.cell? ⟨g, 1, none⟩ = some (.int .i64 cc) ∧ w'.cell? ⟨g, 2, none⟩ = some (.int .u64 (nn : Int))) (by kernel_rfl) ⟨C1, C2⟩ (fun hS => ?_)
            refine wpAnyH_take (i := 0) (oi := ⟨_, _, _, _, _, _⟩) (v := ?_) rfl (by kernel_rfl) (by kernel_rfl) (by kernel_rfl) (fun _ _ _ h => h) (Or.inl ⟨by rfl, ?_⟩) hS ?_
            rotate_left
            · intro w0 hs; obtain ⟨s1, s2⟩ := hs; go_simp; try (with_reducible rfl)
            try simp only [Act.put, List.setIfInBounds_toArray, List.set_cons_zero, List.set_cons_succ]
            refine wpAnyH_take (i := 1) (oi := ⟨_, _, _, _, _, _⟩) (v := ?_) rfl (by kernel_rfl) (by kernel_rfl) (by kernel_rfl) (fun _ _ _ h => h) (Or.inl ⟨by rfl, ?_⟩) hS ?_
            rotate_left
            · intro w0 hs; obtain ⟨s1, s2⟩ := hs; go_simp; try (with_reducible rfl)
            try simp only [Act.put, List.setIfInBounds_toArray, List.set_cons_zero, List.set_cons_succ]
            refine wpAnyH_take (i := 2) (oi := ⟨_, _, _, _, _, _⟩) (v := ?_) rfl (by kernel_rfl) (by kernel_rfl) (by kernel_rfl) (fun _ _ _ h => h) (Or.inl ⟨by rfl, ?_⟩) hS ?_
            rotate_left
            · intro w0 hs; obtain ⟨s1, s2⟩ := hs; go_simp; try (with_reducible rfl)
            try simp only [Act.put, List.setIfInBounds_toArray, List.set_cons_zero, List.set_cons_succ]
            refine wpAnyH_take (i := 3) (oi := ⟨_, _, _, _, _, _⟩) (v := ?_) rfl (by kernel_rfl) (by kernel_rfl) (by kernel_rfl) (fun _ _ _ h => h) (Or.inl ⟨by rfl, ?_⟩) hS ?_
            rotate_left
            · intro w0 hs; obtain ⟨s1, s2⟩ := hs; go_simp; try (with_reducible rfl)
            try simp only [Act.put, List.setIfInBounds_toArray, List.set_cons_zero, List.set_cons_succ]
            refine wpAnyH_take (i := 4) (oi := ⟨_, _, _, _, _, _⟩) (v := ?_) rfl (by kernel_rfl) (by kernel_rfl) (by kernel_rfl) (fun _ _ _ h => h) (Or.inl ⟨by rfl, ?_⟩) hS ?_
            rotate_left
            · intro w0 hs; obtain ⟨s1, s2⟩ := hs; go_simp; try (with_reducible rfl)
            try simp only [Act.put, List.setIfInBounds_toArray, List.set_cons_zero, List.set_cons_succ]
            refine wpAnyH_take (i := 6) (oi := ⟨_, _, _, _, _, _⟩) (v := ?_) rfl (by kernel_rfl) (by kernel_rfl) (by kernel_rfl) (fun _ _ _ h => h) (Or.inl ⟨by rfl, ?_⟩) hS ?_
            rotate_left
            · intro w0 hs; obtain ⟨s1, s2⟩ := hs; go_simp; try (with_reducible rfl)
            try simp only [Act.put, List.setIfInBounds_toArray, List.set_cons_zero, List.set_cons_succ]
            refine wpAnyH_take (i := 7) (oi := ⟨_, _, _, _, _, _⟩) (v := ?_) rfl (by kernel_rfl) (by kernel_rfl) (by kernel_rfl) (fun _ _ _ h => h) (Or.inl ⟨by rfl, ?_⟩) hS ?_
            rotate_left
            · intro w0 hs; obtain ⟨s1, s2⟩ := hs; go_simp; try (with_reducible rfl)
            try simp only [Act.put, List.setIfInBounds_toArray, List.set_cons_zero, List.set_cons_succ]
            refine wpAnyH_take (i := 8) (oi := ⟨_, _, _, _, _, _⟩) (v := ?_) rfl (by kernel_rfl) (by kernel_rfl) (by kernel_rfl) (fun _ _ _ h => h) (Or.inl ⟨by rfl, ?_⟩) hS ?_
            rotate_left
            · intro w0 hs; obtain ⟨s1, s2⟩ := hs; go_simp; try (with_reducible rfl)
            try simp only [Act.put, List.setIfInBounds_toArray, List.set_cons_zero, List.set_cons_succ]
            refine wpAnyH_take (i := 9) (oi := ⟨_, _, _, _, _, _⟩) (v := ?_) rfl (by kernel_rfl) (by kernel_rfl) (by kernel_rfl) (fun _ _ _ h => h) (Or.inl ⟨by rfl, ?_⟩) hS ?_
            rotate_left
            · intro w0 hs; obtain ⟨s1, s2⟩ := hs; go_simp; try (with_reducible rfl)
            try simp only [Act.put, List.setIfInBounds_toArray, List.set_cons_zero, List.set_cons_succ]
            refine wpAnyH_take (i := 10) (oi := ⟨_, _, _, _, _, _⟩) (v := ?_) rfl (by kernel_rfl) (by kernel_rfl) (by kernel_rfl) (fun _ _ _ h => h) (Or.inl ⟨by rfl, ?_⟩) hS ?_
            rotate_left
            · intro w0 hs; obtain ⟨s1, s2⟩ := hs; go_simp; try (with_reducible rfl)
            try simp only [Act.put, List.setIfInBounds_toArray, List.set_cons_zero, List.set_cons_succ]
            refine wpAnyH_ready (rs := [5]) (by kernel_rfl) (by simp) ?_
            refine AllReadyH.cons (o := ⟨_, _, _, _, _, _⟩) rfl (fun K hK => ?_) AllReadyH.nil
            rw [if_pos (by rfl)]
            go_step
            refine (p_bits nn cc HTD.out hlb hnn).mono ?_
            rintro e w1 ⟨rfl, F1, t1, k1, s1⟩
            have SB := Lib.hid (And.intro ((k1.cell (p := ⟨g, 1, none⟩) lgd gF).trans C1) ((k1.cell (p := ⟨g, 2, none⟩) lgd gF).trans C2))
            have T1 := Lib.hid t1
            have K1 := Lib.hid k1
            have S1 := Lib.hid s1
            have nF1 : ¬ F1 g := fun h => (s1 g h).elim gF (fun h => by omega)
            have lg1 : g < w1.heap.size := Nat.lt_of_lt_of_le lgd k1.size
            clear t1 k1 s1
            simp only []
            refine hK.out _ _ (by first | exact SB2.out | exact SB.out | exact hS) (fun hS' => ?_)
            clear hS hK
            have hS := hS'; clear hS'
            try simp only [Act.put, List.setIfInBounds_toArray, List.set_cons_zero, List.set_cons_succ]
            refine wpAnyH_ready (rs := [11]) (by kernel_rfl) (by simp) ?_
            refine AllReadyH.cons (o := ⟨_, _, _, _, _, _⟩) rfl (fun K hK => ?_) AllReadyH.nil
            rw [if_pos (by rfl)]
            go_step
            refine (q_bits nn cc T1.out hlb hnn).mono ?_
            rintro e w2 ⟨rfl, hl2⟩
            have SB2 := Lib.hid (show w2.cell? ⟨g, 1, none⟩ = some (.int .i64 cc) ∧ w2.cell? ⟨g, 2, none⟩ = some (.int .u64 (nn : Int)) from by obtain ⟨F2, t2, k2, s2⟩ := hl2; exact ⟨(k2.cell (p := ⟨g, 1, none⟩) lg1 nF1).trans SB.out.1, (k2.cell (p := ⟨g, 2, none⟩) lg1 nF1).trans SB.out.2⟩)
            have HL := Lib.hid hl2
            clear hl2
            simp only []
            refine hK.out _ _ (by first | exact SB2.out | exact SB.out | exact hS) (fun hS' => ?_)
            clear hS hK
            have hS := hS'; clear hS'
            try simp only [Act.put, List.setIfInBounds_toArray, List.set_cons_zero, List.set_cons_succ]
            refine wpAnyH_take (i := 12) (oi := ⟨_, _, _, _, _, _⟩) (v := ?_) rfl (by kernel_rfl) (by kernel_rfl) (by kernel_rfl) (fun _ _ _ h => h) (Or.inl ⟨by rfl, ?_⟩) hS ?_
            rotate_left
            · intro w0 hs; obtain ⟨s1, s2⟩ := hs; go_simp; try (with_reducible rfl)
            try simp only [Act.put, List.setIfInBounds_toArray, List.set_cons_zero, List.set_cons_succ]
            refine wpAnyH_take (i := 13) (oi := ⟨_, _, _, _, _, _⟩) (v := ?_) rfl (by kernel_rfl) (by kernel_rfl) (by kernel_rfl) (fun _ _ _ h => h) (Or.inl ⟨by rfl, ?_⟩) hS ?_
            rotate_left
            · intro w0 hs; obtain ⟨s1, s2⟩ := hs; go_simp; try (with_reducible rfl)
            try simp only [Act.put, List.setIfInBounds_toArray, List.set_cons_zero, List.set_cons_succ]
            refine wpAnyH_done (by kernel_rfl) ?_ _
            go_wp2
            go_roundg (len - (j + 1))
            case measure => rw [HG.out]; omega
            case rel =>
              obtain ⟨F', I⟩ := J.out.next (by omega) (Left2.trans K0d.out (fun k e => .inl e) (Left2.trans K1.out S1.out HL.out)) (Nat.le_trans (bitsL_len l nn cc) (by omega))
              exact ⟨j + 1, F', _, by omega, rfl, rfl, I⟩
          · by_cases hM2 : M = 2
            · subst hM2
              go_upto_region 14 with fail
              refine wp_region_held_drew (S := fun w' => w'.cell? ⟨g, 1, none⟩ = some (.int .i64 cc) ∧ w'.cell? ⟨g, 2, none⟩ = some (.int .u64 (nn : Int))) (by kernel_rfl) ⟨C1, C2⟩ (fun hS => ?_)
              refine wpAnyH_take (i := 0) (oi := ⟨_, _, _, _, _, _⟩) (v := ?_) rfl (by kernel_rfl) (by kernel_rfl) (by kernel_rfl) (fun _ _ _ h => h) (Or.inl ⟨by rfl, ?_⟩) hS ?_
              rotate_left
              · intro w0 hs; obtain ⟨s1, s2⟩ := hs; go_simp; try (with_reducible rfl)
              try simp only [Act.put, List.setIfInBounds_toArray, List.set_cons_zero, List.set_cons_succ]
              refine wpAnyH_take (i := 1) (oi := ⟨_, _, _, _, _, _⟩) (v := ?_) rfl (by kernel_rfl) (by kernel_rfl) (by kernel_rfl) (fun _ _ _ h => h) (Or.inl ⟨by rfl, ?_⟩) hS ?_
              rotate_left
              · intro w0 hs; obtain ⟨s1, s2⟩ := hs; go_simp; try (with_reducible rfl)
              try simp only [Act.put, List.setIfInBounds_toArray, List.set_cons_zero, List.set_cons_succ]
              refine wpAnyH_take (i := 2) (oi := ⟨_, _, _, _, _, _⟩) (v := ?_) rfl (by kernel_rfl) (by kernel_rfl) (by kernel_rfl) (fun _ _ _ h => h) (Or.inl ⟨by rfl, ?_⟩) hS ?_
              rotate_left
              · intro w0 hs; obtain ⟨s1, s2⟩ := hs; go_simp; try (with_reducible rfl)
              try simp only [Act.put, List.setIfInBounds_toArray, List.set_cons_zero, List.set_cons_succ]
              refine wpAnyH_take (i := 3) (oi := ⟨_, _, _, _, _, _⟩) (v := ?_) rfl (by kernel_rfl) (by kernel_rfl) (by kernel_rfl) (fun _ _ _ h => h) (Or.inl ⟨by rfl, ?_⟩) hS ?_
              rotate_left
              · intro w0 hs; obtain ⟨s1, s2⟩ := hs; go_simp; try (with_reducible rfl)
              try simp only [Act.put, List.setIfInBounds_toArray, List.set_cons_zero, List.set_cons_succ]
              refine wpAnyH_take (i := 4) (oi := ⟨_, _, _, _, _, _⟩) (v := ?_) rfl (by kernel_rfl) (by kernel_rfl) (by kernel_rfl) (fun _ _ _ h => h) (Or.inl ⟨by rfl, ?_⟩) hS ?_
              rotate_left
              · intro w0 hs; obtain ⟨s1, s2⟩ := hs; go_simp; try (with_reducible rfl)
              try simp only [Act.put, List.setIfInBounds_toArray, List.set_cons_zero, List.set_cons_succ]
              refine wpAnyH_take (i := 6) (oi := ⟨_, _, _, _, _, _⟩) (v := ?_) rfl (by kernel_rfl) (by kernel_rfl) (by kernel_rfl) (fun _ _ _ h => h) (Or.inl ⟨by rfl, ?_⟩) hS ?_
              rotate_left
              · intro w0 hs; obtain ⟨s1, s2⟩ := hs; go_simp; try (with_reducible rfl)
              try simp only [Act.put, List.setIfInBounds_toArray, List.set_cons_zero, List.set_cons_succ]
              refine wpAnyH_take (i := 7) (oi := ⟨_, _, _, _, _, _⟩) (v := ?_) rfl (by kernel_rfl) (by kernel_rfl) (by kernel_rfl) (fun _ _ _ h => h) (Or.inl ⟨by rfl, ?_⟩) hS ?_
              rotate_left
              · intro w0 hs; obtain ⟨s1, s2⟩ := hs; go_simp; try (with_reducible rfl)
              try simp only [Act.put, List.setIfInBounds_toArray, List.set_cons_zero, List.set_cons_succ]
              refine wpAnyH_take (i := 8) (oi := ⟨_, _, _, _, _, _⟩) (v := ?_) rfl (by kernel_rfl) (by kernel_rfl) (by kernel_rfl) (fun _ _ _ h => h) (Or.inl ⟨by rfl, ?_⟩) hS ?_
              rotate_left
              · intro w0 hs; obtain ⟨s1, s2⟩ := hs; go_simp; try (with_reducible rfl)
              try simp only [Act.put, List.setIfInBounds_toArray, List.set_cons_zero, List.set_cons_succ]
              refine wpAnyH_take (i := 9) (oi := ⟨_, _, _, _, _, _⟩) (v := ?_) rfl (by kernel_rfl) (by kernel_rfl) (by kernel_rfl) (fun _ _ _ h => h) (Or.inl ⟨by rfl, ?_⟩) hS ?_
              rotate_left
              · intro w0 hs; obtain ⟨s1, s2⟩ := hs; go_simp; try (with_reducible rfl)
              try simp only [Act.put, List.setIfInBounds_toArray, List.set_cons_zero, List.set_cons_succ]
              refine wpAnyH_take (i := 10) (oi := ⟨_, _, _, _, _, _⟩) (v := ?_) rfl (by kernel_rfl) (by kernel_rfl) (by kernel_rfl) (fun _ _ _ h => h) (Or.inl ⟨by rfl, ?_⟩) hS ?_
              rotate_left
              · intro w0 hs; obtain ⟨s1, s2⟩ := hs; go_simp; try (with_reducible rfl)
              try simp only [Act.put, List.setIfInBounds_toArray, List.set_cons_zero, List.set_cons_succ]
              refine wpAnyH_ready (rs := [5]) (by kernel_rfl) (by simp) ?_
              refine AllReadyH.cons (o := ⟨_, _, _, _, _, _⟩) rfl (fun K hK => ?_) AllReadyH.nil
              rw [if_pos (by rfl)]
              go_step
              refine (p_bits nn cc HTD.out hlb hnn).mono ?_
              rintro e w1 ⟨rfl, F1, t1, k1, s1⟩
              have SB := Lib.hid (And.intro ((k1.cell (p := ⟨g, 1, none⟩) lgd gF).trans C1) ((k1.cell (p := ⟨g, 2, none⟩) lgd gF).trans C2))
              have T1 := Lib.hid t1
              have K1 := Lib.hid k1
              have S1 := Lib.hid s1
              have nF1 : ¬ F1 g := fun h => (s1 g h).elim gF (fun h => by omega)
              have lg1 : g < w1.heap.size := Nat.lt_of_lt_of_le lgd k1.size
              clear t1 k1 s1
              simp only []
              refine hK.out _ _ (by first | exact SB2.out | exact SB.out | exact hS) (fun hS' => ?_)
              clear hS hK
              have hS := hS'; clear hS'
              try simp only [Act.put, List.setIfInBounds_toArray, List.set_cons_zero, List.set_cons_succ]
              refine wpAnyH_ready (rs := [11]) (by kernel_rfl) (by simp) ?_
              refine AllReadyH.cons (o := ⟨_, _, _, _, _, _⟩) rfl (fun K hK => ?_) AllReadyH.nil
              rw [if_pos (by rfl)]
              go_step
              refine (q_bits nn cc T1.out hlb hnn).mono ?_
              rintro e w2 ⟨rfl, hl2⟩
              have SB2 := Lib.hid (show w2.cell? ⟨g, 1, none⟩ = some (.int .i64 cc) ∧ w2.cell? ⟨g, 2, none⟩ = some (.int .u64 (nn : Int)) from by obtain ⟨F2, t2, k2, s2⟩ := hl2; exact ⟨(k2.cell (p := ⟨g, 1, none⟩) lg1 nF1).trans SB.out.1, (k2.cell (p := ⟨g, 2, none⟩) lg1 nF1).trans SB.out.2⟩)
              have HL := Lib.hid hl2
              clear hl2
              simp only []
              refine hK.out _ _ (by first | exact SB2.out | exact SB.out | exact hS) (fun hS' => ?_)
              clear hS hK
              have hS := hS'; clear hS'
              try simp only [Act.put, List.setIfInBounds_toArray, List.set_cons_zero, List.set_cons_succ]
              refine wpAnyH_take (i := 12) (oi := ⟨_, _, _, _, _, _⟩) (v := ?_) rfl (by kernel_rfl) (by kernel_rfl) (by kernel_rfl) (fun _ _ _ h => h) (Or.inl ⟨by rfl, ?_⟩) hS ?_
              rotate_left
              · intro w0 hs; obtain ⟨s1, s2⟩ := hs; go_simp; try (with_reducible rfl)
              try simp only [Act.put, List.setIfInBounds_toArray, List.set_cons_zero, List.set_cons_succ]
              refine wpAnyH_take (i := 13) (oi := ⟨_, _, _, _, _, _⟩) (v := ?_) rfl (by kernel_rfl) (by kernel_rfl) (by kernel_rfl) (fun _ _ _ h => h) (Or.inl ⟨by rfl, ?_⟩) hS ?_
              rotate_left
              · intro w0 hs; obtain ⟨s1, s2⟩ := hs; go_simp; try (with_reducible rfl)
              try simp only [Act.put, List.setIfInBounds_toArray, List.set_cons_zero, List.set_cons_succ]
              refine wpAnyH_done (by kernel_rfl) ?_ _
              go_wp2
              go_roundg (len - (j + 1))
              case measure => rw [HG.out]; omega
              case rel =>
                obtain ⟨F', I⟩ := J.out.next (by omega) (Left2.trans K0d.out (fun k e => .inl e) (Left2.trans K1.out S1.out HL.out)) (Nat.le_trans (bitsL_len l nn cc) (by omega))
                exact ⟨j + 1, F', _, by omega, rfl, rfl, I⟩
            · have z0 : ((M : Int) == 0) = false := by simpa using hM0
              have z1 : ((M : Int) == 1) = false := by have : (M : Int) ≠ 1 := by omega
                                                       simpa using this
              have z2 : ((M : Int) == 2) = false := by have : (M : Int) ≠ 2 := by omega
                                                       simpa using this
              go_upto_region 8 with fail
              refine wp_region_held_drew (S := fun w' => w'.cell? ⟨g, 1, none⟩ = some (.int .i64 cc) ∧ w'.cell? ⟨g, 2, none⟩ = some (.int .u64 (nn : Int))) (by kernel_rfl) ⟨C1, C2⟩ (fun hS => ?_)
              refine wpAnyH_take (i := 0) (oi := ⟨_, _, _, _, _, _⟩) (v := ?_) rfl (by kernel_rfl) (by kernel_rfl) (by kernel_rfl) (fun _ _ _ h => h) (Or.inl ⟨by rfl, ?_⟩) hS ?_
              rotate_left
              · intro w0 hs; obtain ⟨s1, s2⟩ := hs; go_simp; try (with_reducible rfl)
              try simp only [Act.put, List.setIfInBounds_toArray, List.set_cons_zero, List.set_cons_succ]
              refine wpAnyH_take (i := 1) (oi := ⟨_, _, _, _, _, _⟩) (v := ?_) rfl (by kernel_rfl) (by kernel_rfl) (by kernel_rfl) (fun _ _ _ h => h) (Or.inl ⟨by rfl, ?_⟩) hS ?_
              rotate_left
              · intro w0 hs; obtain ⟨s1, s2⟩ := hs; go_simp; try (with_reducible rfl)
              try simp only [Act.put, List.setIfInBounds_toArray, List.set_cons_zero, List.set_cons_succ]
              refine wpAnyH_take (i := 2) (oi := ⟨_, _, _, _, _, _⟩) (v := ?_) rfl (by kernel_rfl) (by kernel_rfl) (by kernel_rfl) (fun _ _ _ h => h) (Or.inl ⟨by rfl, ?_⟩) hS ?_
              rotate_left
              · intro w0 hs; obtain ⟨s1, s2⟩ := hs; go_simp; try (with_reducible rfl)
              try simp only [Act.put, List.setIfInBounds_toArray, List.set_cons_zero, List.set_cons_succ]
              refine wpAnyH_take (i := 3) (oi := ⟨_, _, _, _, _, _⟩) (v := ?_) rfl (by kernel_rfl) (by kernel_rfl) (by kernel_rfl) (fun _ _ _ h => h) (Or.inl ⟨by rfl, ?_⟩) hS ?_
              rotate_left
              · intro w0 hs; obtain ⟨s1, s2⟩ := hs; go_simp; try (with_reducible rfl)
              try simp only [Act.put, List.setIfInBounds_toArray, List.set_cons_zero, List.set_cons_succ]
              refine wpAnyH_take (i := 4) (oi := ⟨_, _, _, _, _, _⟩) (v := ?_) rfl (by kernel_rfl) (by kernel_rfl) (by kernel_rfl) (fun _ _ _ h => h) (Or.inl ⟨by rfl, ?_⟩) hS ?_
              rotate_left
              · intro w0 hs; obtain ⟨s1, s2⟩ := hs; go_simp; try (with_reducible rfl)
              try simp only [Act.put, List.setIfInBounds_toArray, List.set_cons_zero, List.set_cons_succ]
              refine wpAnyH_take (i := 6) (oi := ⟨_, _, _, _, _, _⟩) (v := ?_) rfl (by kernel_rfl) (by kernel_rfl) (by kernel_rfl) (fun _ _ _ h => h) (Or.inl ⟨by rfl, ?_⟩) hS ?_
              rotate_left
              · intro w0 hs; obtain ⟨s1, s2⟩ := hs; go_simp; try (with_reducible rfl)
              try simp only [Act.put, List.setIfInBounds_toArray, List.set_cons_zero, List.set_cons_succ]
              refine wpAnyH_take (i := 7) (oi := ⟨_, _, _, _, _, _⟩) (v := ?_) rfl (by kernel_rfl) (by kernel_rfl) (by kernel_rfl) (fun _ _ _ h => h) (Or.inl ⟨by rfl, ?_⟩) hS ?_
              rotate_left
              · intro w0 hs; obtain ⟨s1, s2⟩ := hs; go_simp; try (with_reducible rfl)
              try simp only [Act.put, List.setIfInBounds_toArray, List.set_cons_zero, List.set_cons_succ]
              refine wpAnyH_take (i := 8) (oi := ⟨_, _, _, _, _, _⟩) (v := ?_) rfl (by kernel_rfl) (by kernel_rfl) (by kernel_rfl) (fun _ _ _ h => h) (Or.inl ⟨by rfl, ?_⟩) hS ?_
              rotate_left
              · intro w0 hs; obtain ⟨s1, s2⟩ := hs; go_simp; try (with_reducible rfl)
              try simp only [Act.put, List.setIfInBounds_toArray, List.set_cons_zero, List.set_cons_succ]
              refine wpAnyH_take (i := 9) (oi := ⟨_, _, _, _, _, _⟩) (v := ?_) rfl (by kernel_rfl) (by kernel_rfl) (by kernel_rfl) (fun _ _ _ h => h) (Or.inl ⟨by rfl, ?_⟩) hS ?_
              rotate_left
              · intro w0 hs; obtain ⟨s1, s2⟩ := hs; go_simp; try (with_reducible rfl)
              try simp only [Act.put, List.setIfInBounds_toArray, List.set_cons_zero, List.set_cons_succ]
              refine wpAnyH_take (i := 10) (oi := ⟨_, _, _, _, _, _⟩) (v := ?_) rfl (by kernel_rfl) (by kernel_rfl) (by kernel_rfl) (fun _ _ _ h => h) (Or.inl ⟨by rfl, ?_⟩) hS ?_
              rotate_left
              · intro w0 hs; obtain ⟨s1, s2⟩ := hs; go_simp; try (with_reducible rfl)
              try simp only [Act.put, List.setIfInBounds_toArray, List.set_cons_zero, List.set_cons_succ]
              refine wpAnyH_ready (rs := [5]) (by kernel_rfl) (by simp) ?_
              refine AllReadyH.cons (o := ⟨_, _, _, _, _, _⟩) rfl (fun K hK => ?_) AllReadyH.nil
              rw [if_pos (by rfl)]
              go_step
              refine (p_rice nn cc HTD.out hlb hnn).mono ?_
              rintro e w1 ⟨rfl, F1, t1, k1, s1⟩
              have SB := Lib.hid (And.intro ((k1.cell (p := ⟨g, 1, none⟩) lgd gF).trans C1) ((k1.cell (p := ⟨g, 2, none⟩) lgd gF).trans C2))
              have T1 := Lib.hid t1
              have K1 := Lib.hid k1
              have S1 := Lib.hid s1
              have nF1 : ¬ F1 g := fun h => (s1 g h).elim gF (fun h => by omega)
              have lg1 : g < w1.heap.size := Nat.lt_of_lt_of_le lgd k1.size
              clear t1 k1 s1
              simp only []
              refine hK.out _ _ (by first | exact SB2.out | exact SB.out | exact hS) (fun hS' => ?_)
              clear hS hK
              have hS := hS'; clear hS'
              try simp only [Act.put, List.setIfInBounds_toArray, List.set_cons_zero, List.set_cons_succ]
              refine wpAnyH_ready (rs := [11]) (by kernel_rfl) (by simp) ?_
              refine AllReadyH.cons (o := ⟨_, _, _, _, _, _⟩) rfl (fun K hK => ?_) AllReadyH.nil
              rw [if_pos (by rfl)]
              go_step
              refine (q_rice nn cc T1.out hlb hnn).mono ?_
              rintro e w2 ⟨rfl, hl2⟩
              have SB2 := Lib.hid (show w2.cell? ⟨g, 1, none⟩ = some (.int .i64 cc) ∧ w2.cell? ⟨g, 2, none⟩ = some (.int .u64 (nn : Int)) from by obtain ⟨F2, t2, k2, s2⟩ := hl2; exact ⟨(k2.cell (p := ⟨g, 1, none⟩) lg1 nF1).trans SB.out.1, (k2.cell (p := ⟨g, 2, none⟩) lg1 nF1).trans SB.out.2⟩)
              have HL := Lib.hid hl2
              clear hl2
              simp only []
              refine hK.out _ _ (by first | exact SB2.out | exact SB.out | exact hS) (fun hS' => ?_)
              clear hS hK
              have hS := hS'; clear hS'
              try simp only [Act.put, List.setIfInBounds_toArray, List.set_cons_zero, List.set_cons_succ]
              refine wpAnyH_take (i := 12) (oi := ⟨_, _, _, _, _, _⟩) (v := ?_) rfl (by kernel_rfl) (by kernel_rfl) (by kernel_rfl) (fun _ _ _ h => h) (Or.inl ⟨by rfl, ?_⟩) hS ?_
              rotate_left
              · intro w0 hs; obtain ⟨s1, s2⟩ := hs; go_simp; try (with_reducible rfl)
              try simp only [Act.put, List.setIfInBounds_toArray, List.set_cons_zero, List.set_cons_succ]
              refine wpAnyH_take (i := 13) (oi := ⟨_, _, _, _, _, _⟩) (v := ?_) rfl (by kernel_rfl) (by kernel_rfl) (by kernel_rfl) (fun _ _ _ h => h) (Or.inl ⟨by rfl, ?_⟩) hS ?_
              rotate_left
              · intro w0 hs; obtain ⟨s1, s2⟩ := hs; go_simp; try (with_reducible rfl)
              try simp only [Act.put, List.setIfInBounds_toArray, List.set_cons_zero, List.set_cons_succ]
              refine wpAnyH_done (by kernel_rfl) ?_ _
              go_wp2
              go_roundg (len - (j + 1))
              case measure => rw [HG.out]; omega
              case rel =>
                obtain ⟨F', I⟩ := J.out.next (by omega) (Left2.trans K0d.out (fun k e => .inl e) (Left2.trans K1.out S1.out HL.out)) (riceL_len l nn cc)
                exact ⟨j + 1, F', _, by omega, rfl, rfl, I⟩
    · obtain rfl : j = len := by omega
      have PB := Lib.hid (ends_w J.out.1 (by omega))
      go_wp2_with fail
      refine PB.out.mono ?_
      rintro e x1 ⟨q1, c1, o1, rfl, r1, ho1, hb1⟩
      have PR := Lib.hid (ends_r (J.out.1.below hb1) hlb)
      have R1 := Lib.hid r1
      have B1 := Lib.hid hb1
      clear r1 ho1 hb1
      go_wp2_with fail
      refine PR.out.mono ?_
      rintro e x2 ⟨g2, rfl, r2, _, hb2⟩
      have PE := Lib.hid (eq_pack (c := c1) (d := (pack l).length) R1.out r2 hb2)
      have B2 := Lib.hid (B1.out.trans (hb2.mono B1.out.size))
      clear r2 hb2
      go_wp2_with fail
      refine PE.out.mono ?_
      rintro e x3 ⟨rfl, rfl⟩
      have PW := Lib.hid (p_bits 5 3 (J.out.1.below B2.out) hlb (by decide))
      go_wp2_with fail
      refine PW.out.mono ?_
      rintro e x4 ⟨rfl, F4, t4, k4, s4⟩
      have PB4 := Lib.hid (ends_w t4 (Nat.le_trans (bitsL_len l 5 3) (by omega)))
      have BK := Lib.hid (J.out.2.2.1.trans ((B2.out.mono J.out.2.2.1.size).trans (k4.below (Nat.le_trans J.out.2.2.1.size B2.out.size) J.out.2.1)))
      clear t4 k4 s4
      rw [show bitsE 3 = 0 from rfl]
      go_wp2_with fail
      refine PB4.out.mono ?_
      rintro e x5 ⟨q5, c5, o5, rfl, _, _, hb5⟩
      have HB5 := Lib.hid hb5
      have hpos := pack_pos l
      clear hb5
      go_wp2
      go_ret
      exact ⟨by simp; omega, BK.out.trans (HB5.out.mono BK.out.size)⟩
end Go.Proofs.Ytfdfplblobihaaa
