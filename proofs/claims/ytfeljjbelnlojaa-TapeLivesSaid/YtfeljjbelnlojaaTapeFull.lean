/- The law TapeFull. -/
import Derived.Test.YtfeljjbelnlojaaTapeC
import Derived.Deep.LoopGhost
namespace Go.Proofs.Ytfeljjbelnlojaa
open Go Go.RowKit
set_option linter.unusedSimpArgs false

/-- a slice of slices of bytes that came in -/
def RowsIn (w : World) (a0 : Option Addr) (len : Nat) (A : Nat → Option Addr) (C : Nat → Nat) (Z : Nat → List Int) : Prop :=
  ∀ r, r < len → ∃ b o, a0 = some ⟨b, o, none⟩ ∧ w.cell? ⟨b, o + r, none⟩ = some (.slice (A r) (Z r).length (C r)) ∧ Lib.BytesIn w (A r) (Z r).length (Z r) ∧ (Z r).length ≤ 9223372036854775807
theorem RowsIn.below {w w' : World} {a0 : Option Addr} {len : Nat} {A : Nat → Option Addr} {C : Nat → Nat} {Z : Nat → List Int} (h : RowsIn w a0 len A C Z) (hb : Below w.heap.size w w') : RowsIn w' a0 len A C Z := fun r hr => by
  obtain ⟨b, o, h1, h2, h3, h5⟩ := h r hr
  exact ⟨b, o, h1, (hb.cell (p := ⟨b, o + r, none⟩) (cell_lt h2)).trans h2, bytes_keep h3 (Keep.of_below (X := fun _ => False) hb) (fun _ _ _ h => h), h5⟩

set_option maxRecDepth 100000 in
set_option maxHeartbeats 1600000 in
theorem full_walk (room N : Int) (a0 : Option Addr) (len cap : Nat) (A : Nat → Option Addr) (C : Nat → Nat) (Z : Nat → List Int) (w : World)
    (e1 : wrap64 ((IntKind.u64.wrap room).tmod 500) = N) (hN : 0 ≤ N ∧ N < 500) (hlen : len ≤ 9223372036854775807) (hR : RowsIn w a0 len A C Z) :
    Calls Try.prog 3 #[.int .i64 room, .slice a0 len cap] w fun e w' => e = .returned (.bool true) ∧ Below w.heap.size w w' := by
  have P := Lib.hid (fun w => tnew N w hN.1 (by omega))
  have HR := Lib.hid hR
  clear hR
  go_enter Try.func3, Try.ntmps3
  go_upto_region 2 with fail
  rw [e1]
  clear e1
  go_wp2_with fail
  refine (P.out _).mono ?_
  rintro e w1 ⟨p, o, rfl, ht, hp, ho, hb⟩
  have H0 := Lib.hid (And.intro ht (And.intro hp (And.intro ho hb)))
  clear ht hp ho hb
  go_wp2
  go_loopg [7, 24] len (fun g u i wx => ∃ (k : Nat) (xs : List Int) (sy : Int) (o : Option Nat), k ≤ len ∧ i = .int .i64 k ∧ u = .int .i64 xs.length ∧ g = len - k ∧ (xs.length : Int) ≤ N ∧ Hid (TapeAt wx p xs sy N (-1) o ∧ w.heap.size ≤ p ∧ (∀ g, o = some g → w.heap.size ≤ g) ∧ Below w.heap.size w wx))
  case atStart => exact ⟨0, [], 0, o, by omega, rfl, rfl, rfl, by simpa using hN.1, H0.out⟩
  case round =>
    clear H0
    obtain ⟨k, xs, sy, o, hk, rfl, rfl, rfl, hused, H⟩ := hrel
    by_cases hlt : k < len
    · obtain ⟨ab, ao, ha, hc0, hb0, hl0⟩ := (HR.out.below H.out.2.2.2) k hlt
      subst ha
      have hcell := hc0
      have hq0 : 0 < (Z k).length → ∀ q, A k = some q → q.block < w.heap.size := fun h0 => by obtain ⟨_, _, _, _, h, _⟩ := HR.out k hlt; exact bytes_lt h h0
      generalize hz : Z k = zs at *
      have HZ := Lib.hid hz
      clear hz
      by_cases h40 : 40 < k
      · have d40 : (40 : Int) < k := by omega
        have HB0 := Lib.hid hb0
        have HQ0 := Lib.hid hq0
        clear hb0 hq0 hc0
        have PR := Lib.hid (troom p xs sy N (-1) N o wr H.out.1)
        have hroom := Lib.hid (show roomE N = 0 from if_neg (by omega))
        have BW := Lib.hid H.out.2.2.2
        have FO := Lib.hid (And.intro H.out.2.1 H.out.2.2.1)
        have hle : (xs.length : Int) ≤ N := hused
        go_wp2_with fail
        refine PR.out.mono ?_
        rintro e w1 ⟨rfl, ht, hk⟩
        rw [hroom.out]
        have HK := Lib.hid hk
        clear ht hk
        go_wp2
        go_ret
        exact ⟨rfl, BW.out.trans (HK.out.below BW.out.size (fun k hk => by rcases hk with rfl | hk; exact FO.out.1; exact FO.out.2 k hk))⟩
      · have d40 : ¬ (40 : Int) < k := by omega
        have PA := Lib.hid (tappend p xs zs sy N (-1) o (A k) (C k) wr H.out.1 hb0 (fun h0 a ha hf => by
          have h2 := hq0 h0 a ha
          rcases hf with hf | hf
          · have := H.out.2.1; omega
          · have := H.out.2.2.1 _ hf; omega) (by omega) (by omega) hN.1 (by omega) (by omega) (by omega))
        have HB0 := Lib.hid hb0
        have HQ0 := Lib.hid hq0
        clear hb0 hq0 hc0
        by_cases hfit : (zs.length : Int) ≤ N - xs.length
        · have HE := Lib.hid (show appE xs.length zs.length N (-1) = 0 from by unfold appE; rw [if_neg (by omega), if_neg (by omega)])
          have HX := Lib.hid (show appB xs zs N (-1) = xs ++ zs from by unfold appB; rw [if_neg (by omega), if_neg (by omega)])
          go_wp2_with fail
          refine PA.out.mono ?_
          rintro e w2 ⟨rfl, ⟨o2, ht2, ho2⟩, hk2⟩
          rw [HE.out]
          rw [HX.out, show burn (-1) = -1 from rfl] at ht2
          have hlen2 : (xs ++ zs).length = xs.length + zs.length := List.length_append
          generalize xs ++ zs = ys at *
          have B2 : Below w.heap.size w w2 := H.out.2.2.2.trans (hk2.below H.out.2.2.2.size (fun k hk => by rcases hk with rfl | hk; exact H.out.2.1; exact H.out.2.2.1 k hk))
          have O2 : ∀ g, o2 = some g → w.heap.size ≤ g := by
            intro g hg
            rcases ho2 with h | ⟨g', h, hg'⟩
            · exact H.out.2.2.1 g (by rw [← h]; exact hg)
            · rw [h] at hg; cases hg; exact Nat.le_trans H.out.2.2.2.size hg'
          have PB := Lib.hid (tbytes p ys sy N (-1) o2 w2 ht2 (by omega))
          have HT2 := Lib.hid ht2
          have HB2 := Lib.hid B2
          have HO2 := Lib.hid O2
          have HL2 := Lib.hid hlen2
          clear ht2 ho2 hk2 B2 O2 hlen2
          have q1 : ((ys.length : Int) == (xs.length : Int) + zs.length) = true := by rw [beq_iff_eq]; have := HL2.out; omega
          have q2 : ((ys.length : Int) != (xs.length : Int) + zs.length) = false := by rw [bne_eq_false_iff_eq]; have := HL2.out; omega
          go_wp2_with fail
          refine PB.out.mono ?_
          rintro e w3 ⟨q3, c3, o3, rfl, _, _, hb3⟩
          have HB3 := Lib.hid hb3
          clear hb3
          go_wp2
          go_roundg (len - (k + 1))
          case measure => omega
          case rel => exact ⟨k + 1, ys, sy, o2, by omega, by go_num, by rw [HL2.out, Int.natCast_add], rfl, by have := HL2.out; omega, HT2.out.keep (Keep.of_below (X := fun _ => False) HB3.out) (fun _ _ h => h), H.out.2.1, HO2.out, HB2.out.trans (HB3.out.mono HB2.out.size)⟩
        · have HE := Lib.hid (show appE xs.length zs.length N (-1) = 4 from by unfold appE; rw [if_neg (by omega), if_pos (by omega)])
          have HX := Lib.hid (show appB xs zs N (-1) = xs from by unfold appB; rw [if_neg (by omega), if_pos (by omega)])
          go_wp2_with fail
          refine PA.out.mono ?_
          rintro e w2 ⟨rfl, ⟨o2, ht2, ho2⟩, hk2⟩
          rw [HE.out]
          rw [HX.out, show burn (-1) = -1 from rfl] at ht2
          have B2 : Below w.heap.size w w2 := H.out.2.2.2.trans (hk2.below H.out.2.2.2.size (fun k hk => by rcases hk with rfl | hk; exact H.out.2.1; exact H.out.2.2.1 k hk))
          have O2 : ∀ g, o2 = some g → w.heap.size ≤ g := by
            intro g hg
            rcases ho2 with h | ⟨g', h, hg'⟩
            · exact H.out.2.2.1 g (by rw [← h]; exact hg)
            · rw [h] at hg; cases hg; exact Nat.le_trans H.out.2.2.2.size hg'
          have PB := Lib.hid (tbytes p xs sy N (-1) o2 w2 ht2 (by omega))
          have HT2 := Lib.hid ht2
          have HB2 := Lib.hid B2
          have HO2 := Lib.hid O2
          clear ht2 ho2 hk2 B2 O2
          go_wp2_with fail
          refine PB.out.mono ?_
          rintro e w3 ⟨q3, c3, o3, rfl, _, _, hb3⟩
          have HB3 := Lib.hid hb3
          clear hb3
          go_wp2
          go_roundg (len - (k + 1))
          case measure => omega
          case rel => exact ⟨k + 1, xs, sy, o2, by omega, by go_num, rfl, rfl, hused, HT2.out.keep (Keep.of_below (X := fun _ => False) HB3.out) (fun _ _ h => h), H.out.2.1, HO2.out, HB2.out.trans (HB3.out.mono HB2.out.size)⟩
    · have PR := Lib.hid (troom p xs sy N (-1) N o wr H.out.1)
      have hroom := Lib.hid (show roomE N = 0 from if_neg (by omega))
      have BW := Lib.hid H.out.2.2.2
      have FO := Lib.hid (And.intro H.out.2.1 H.out.2.2.1)
      have hle : (xs.length : Int) ≤ N := hused
      go_wp2_with fail
      refine PR.out.mono ?_
      rintro e w1 ⟨rfl, ht, hk⟩
      rw [hroom.out]
      have HK := Lib.hid hk
      clear ht hk
      go_wp2
      go_ret
      exact ⟨rfl, BW.out.trans (HK.out.below BW.out.size (fun k hk => by rcases hk with rfl | hk; exact FO.out.1; exact FO.out.2 k hk))⟩
end Go.Proofs.Ytfeljjbelnlojaa
