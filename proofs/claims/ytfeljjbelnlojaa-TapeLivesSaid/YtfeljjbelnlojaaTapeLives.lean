/- The law TapeLives. -/
import Derived.Test.YtfeljjbelnlojaaTapeLivesBase
namespace Go.Proofs.Ytfeljjbelnlojaa
open Go Go.RowKit
set_option linter.unusedSimpArgs false
set_option linter.unusedVariables false

theorem Inv.start {W w1 w2 : World} {p r : Nat} {a : TS} {o o' : Option Nat} (ha : a.ok) (t : TapeAt w1 p a.xs a.sy a.ro a.fu o) (hp : W.heap.size ≤ p) (ho : ∀ g, o = some g → W.heap.size ≤ g) (hb : Below W.heap.size W w1)
    (t' : RefAt w2 r a.xs a.sy a.ro a.fu o') (hr : w1.heap.size ≤ r) (ho' : ∀ g, o' = some g → w1.heap.size ≤ g) (hb' : Below w1.heap.size w1 w2) :
    Inv W (fun k => foot p o k ∨ foot r o' k) w2 p r a (.pointer none) (.pointer none) := by
  have lt1 := t.lt
  have ge1 : ∀ k, foot p o k → W.heap.size ≤ k := by
    rintro k (rfl | e)
    · exact hp
    · exact ho k e
  have ge2 : ∀ k, foot r o' k → w1.heap.size ≤ k := by
    rintro k (rfl | e)
    · exact hr
    · exact ho' k e
  have hs := hb.size
  refine ⟨ha, ⟨o, o', t.keep (X := fun _ => False) (Keep.of_below hb') (fun _ _ h => h), t', fun k e1 e2 => ?_, fun k => Iff.rfl⟩, ?_, hb.trans (hb'.mono hs), .inl ⟨rfl, rfl⟩⟩
  · have := lt1 k e1; have := ge2 k e2; omega
  · rintro k (e | e)
    · exact ge1 k e
    · have := ge2 k e; omega
theorem lives_bad (q0 : Option Addr) (c0 n : Nat) (room : Int) (a0 : Option Addr) (len cap : Nat) (at' : Int) (W : World) (hbad : room < 0 ∨ 16777216 < room ∨ room < n) :
    Calls Try.prog 7 #[.slice q0 n c0, .int .i64 room, .slice a0 len cap, .int .i64 at'] W fun e w' => e = .returned (.bool true) ∧ Below W.heap.size W w' := by
  have P1 := Lib.hid (tof_bad q0 c0 n room W hbad)
  have P2 := Lib.hid (rof_bad q0 c0 n room W hbad)
  clear hbad
  go_enter Try.func7, Try.ntmps7
  go_wp2_with fail
  refine P1.out.mono ?_
  rintro e w1 ⟨rfl, rfl⟩
  go_wp2_with fail
  refine P2.out.mono ?_
  rintro e w1 ⟨rfl, rfl⟩
  go_wp2
  go_ret
  exact ⟨rfl, Below.refl _ _⟩
set_option maxRecDepth 100000 in
set_option maxHeartbeats 6400000 in
theorem lives_walk (q0 : Option Addr) (c0 : Nat) (xs : List Int) (room : Int) (a0 : Option Addr) (len cap : Nat) (O N : Nat → Int) (A : Nat → Option Addr) (C : Nat → Nat) (Z : Nat → List Int) (at' : Int) (W : World)
    (hx : Lib.BytesIn W q0 xs.length xs) (hD : DosIn W a0 len O N A C Z) (hlen : len ≤ 9223372036854775807) (h0 : 0 ≤ room) (h1 : room ≤ 16777216) (h2 : xs.length ≤ room) :
    Calls Try.prog 7 #[.slice q0 xs.length c0, .int .i64 room, .slice a0 len cap, .int .i64 at'] W fun e w' => e = .returned (.bool true) ∧ Below W.heap.size W w' := by
  have P1 := Lib.hid (tof q0 c0 xs room W hx h0 h1 h2)
  have HX := Lib.hid hx
  have HD := Lib.hid hD
  clear hx hD
  go_enter Try.func7, Try.ntmps7
  go_wp2_with fail
  refine P1.out.mono ?_
  rintro e w1 ⟨p, o, rfl, t1, hp, ho, hb⟩
  have P2 := Lib.hid (rof q0 c0 xs room w1 (bytes_keep (X := fun _ => False) HX.out (Keep.of_below hb) (fun _ _ _ h => h)) h0 h1 h2)
  have H1 := Lib.hid (And.intro t1 (And.intro hp (And.intro ho hb)))
  clear t1 hp ho hb
  go_wp2_with fail
  refine P2.out.mono ?_
  rintro e w2 ⟨r, o', rfl, t2, hr, ho', hb'⟩
  have I0 := Lib.hid (Inv.start (W := W) (a := ⟨xs, xs.length, room, -1⟩) ⟨by show xs.length ≤ _; omega, by show (0 : Int) ≤ xs.length; omega, by show (xs.length : Int) ≤ xs.length; omega, h0, h1, by show (-1 : Int) ≤ -1; omega, by show (-1 : Int) ≤ _; omega⟩ H1.out.1 H1.out.2.1 H1.out.2.2.1 H1.out.2.2.2 t2 hr ho' hb')
  clear t2 hr ho' hb'
  go_wp2
  go_loopg [13, 14, 56] len (fun gh cv yv i wx => ∃ (j : Nat) (F : Nat → Prop) (a : TS) (cv' yv' : Value), j ≤ len ∧ i = .int .i64 j ∧ gh = len - j ∧ cv = cv' ∧ yv = yv' ∧ Hid (Inv W F wx p r a cv' yv'))
  case atStart => exact ⟨0, _, _, _, _, by omega, rfl, rfl, rfl, rfl, I0⟩
  case round =>
    clear I0 P1 P2 H1
    obtain ⟨j, F, a, cv, yv, hj, rfl, rfl, rfl, rfl, J⟩ := hrel
    by_cases hlt : j < len
    · obtain ⟨b, o3, rfl, d1, d2, d3, d4, d5, d6⟩ := (HD.out.below J.out.2.2.2.1) j hlt
      have HBY0 := Lib.hid d4
      have HBL := Lib.hid (show 0 < (Z j).length → ∀ d, A j = some d → d.block < W.heap.size from fun h0 => by
        obtain ⟨_, _, _, _, _, _, h, _⟩ := HD.out j hlt
        exact bytes_lt h h0)
      clear d4
      by_cases h60 : 60 < j
      · have d60 : decide ((60 : Int) < (j : Int)) = true := decide_eq_true (by omega)
        go_upto_region 16 with fail
        have JB := Lib.hid (J.out.more ((Below.refl _ _).alloc (Nat.le_refl _) (.cells #[.int .i64 (O j), .int .i64 (N j), .slice (A j) (Z j).length (C j)] 40)))
        have BX := Lib.hid (Blk.new wr #[.int .i64 (O j), .int .i64 (N j), .slice (A j) (Z j).length (C j)] 40)
        have HBY := Lib.hid (bytes_keep (X := fun _ => False) HBY0.out ((Keep.refl _ wr).alloc (.cells #[.int .i64 (O j), .int .i64 (N j), .slice (A j) (Z j).length (C j)] 40)) (fun _ _ _ h => h))
        generalize wr.alloc (.cells #[.int .i64 (O j), .int .i64 (N j), .slice (A j) (Z j).length (C j)] 40) = wB at *
        clear d1 d2 d3
        have SM := Lib.hid (same_two JB.out.2.1 JB.out.1)
        have CYH := JB.out.2.2.2.2
        rcases CYH with ⟨rfl, rfl⟩ | ⟨p2, r2, G, a2, rfl, rfl, ha2, t2, dis, geG⟩
        · go_wp2_with fail
          refine SM.out.mono ?_
          rintro e w5 ⟨rfl, hb5⟩
          have HB5 := Lib.hid hb5
          clear hb5
          go_wp2
          go_ret
          exact ⟨rfl, JB.out.2.2.2.1.trans (HB5.out.mono JB.out.2.2.2.1.size)⟩
        · have HT2 := Lib.hid (And.intro ha2 (And.intro t2 (And.intro dis geG)))
          clear ha2 t2 dis geG
          go_wp2_with fail
          refine SM.out.mono ?_
          rintro e w5 ⟨rfl, hb5⟩
          have SM2 := Lib.hid (same_two (HT2.out.2.1.more hb5) HT2.out.1)
          have HB5 := Lib.hid hb5
          clear hb5
          go_wp2_with fail
          refine SM2.out.mono ?_
          rintro e w6 ⟨rfl, hb6⟩
          have HB56 := Lib.hid (HB5.out.trans (hb6.mono HB5.out.size))
          clear hb6
          have T6 := Lib.hid (HT2.out.2.1.more HB56.out)
          have BN := Lib.hid (Blk.new w6 #[.int .u8 1] 5)
          have P9 := Lib.hid (show Calls Try.prog 9 #[.pointer (some ⟨p2, 0, none⟩), .slice (some ⟨w6.heap.size, 0, none⟩) 1 1] (w6.alloc (.cells #[.int .u8 1] 5)) (fun e w' => e = .returned (.int .i64 (appE a2.xs.length 1 a2.ro a2.fu)) ∧ Left G (w6.alloc (.cells #[.int .u8 1] 5)) w' p2 r2 ⟨appB a2.xs [1] a2.ro a2.fu, a2.sy, a2.ro, burn a2.fu⟩ a2) from
            p_append (ys := [1]) (some ⟨w6.heap.size, 0, none⟩) 1 (T6.out.more ((Below.refl _ _).alloc (Nat.le_refl _) _)) HT2.out.1 (fun _ => ⟨w6.heap.size, 0, rfl, fun i hi => by
              obtain rfl : i = 0 := by simpa using hi
              exact BN.out.cell 0⟩) (by decide) (fun _ d hd hG => by cases hd; exact Nat.lt_irrefl _ (T6.out.lt _ hG)))
          go_wp2_with fail
          refine P9.out.mono ?_
          rintro e w7 ⟨rfl, G1, t7, k7, s7⟩
          have T7 := Lib.hid t7
          have K7 := Lib.hid k7
          have S7 := Lib.hid s7
          clear t7 k7 s7
          have BN7 := Lib.hid (Blk.new w7 #[.int .u8 1] 5)
          have P10 := Lib.hid (show Calls Try.prog 25 #[.pointer (some ⟨r2, 0, none⟩), .slice (some ⟨w7.heap.size, 0, none⟩) 1 1] (w7.alloc (.cells #[.int .u8 1] 5)) (fun e w' => e = .returned (.int .i64 (appE a2.xs.length 1 a2.ro a2.fu)) ∧ Left G1 (w7.alloc (.cells #[.int .u8 1] 5)) w' p2 r2 ⟨appB a2.xs [1] a2.ro a2.fu, a2.sy, a2.ro, burn a2.fu⟩ ⟨appB a2.xs [1] a2.ro a2.fu, a2.sy, a2.ro, burn a2.fu⟩) from
            q_append (ys := [1]) (some ⟨w7.heap.size, 0, none⟩) 1 (T7.out.more ((Below.refl _ _).alloc (Nat.le_refl _) _)) HT2.out.1 (fun _ => ⟨w7.heap.size, 0, rfl, fun i hi => by
              obtain rfl : i = 0 := by simpa using hi
              exact BN7.out.cell 0⟩) (by decide) (fun _ d hd hG => by cases hd; exact Nat.lt_irrefl _ (T7.out.lt _ hG)))
          go_wp2_with fail
          refine P10.out.mono ?_
          rintro e w8 ⟨rfl, G2, t8, k8, s8⟩
          have KB : Keep G w6 w8 := (((Keep.refl G w6).alloc (.cells #[.int .u8 1] 5)).trans K7.out).trans' (((Keep.refl G1 w7).alloc (.cells #[.int .u8 1] 5)).trans k8) (fun k e => (S7.out k e).imp id (fun h => by simp at h; omega))
          have J8 := Lib.hid ((JB.out.2.1.more HB56.out).keep KB (fun k hk hG => HT2.out.2.2.1 k hG hk))
          have SM8 := Lib.hid (same_two J8.out JB.out.1)
          have BE := Lib.hid ((JB.out.2.2.2.1.trans (HB56.out.mono JB.out.2.2.2.1.size)).trans (KB.below (JB.out.2.2.2.1.trans (HB56.out.mono JB.out.2.2.2.1.size)).size HT2.out.2.2.2))
          clear t8 k8 s8 KB
          go_wp2_with fail
          refine SM8.out.mono ?_
          rintro e w9 ⟨rfl, hb9⟩
          have HB9 := Lib.hid hb9
          clear hb9
          go_wp2
          go_ret
          exact ⟨by simp, BE.out.trans (HB9.out.mono BE.out.size)⟩

      · have d60 : decide ((60 : Int) < (j : Int)) = false := decide_eq_false (by omega)
        by_cases hat : (j : Int) = at'
        · subst hat
          go_upto_region 12 with fail
          have JB := Lib.hid (J.out.more ((Below.refl _ _).alloc (Nat.le_refl _) (.cells #[.int .i64 (O j), .int .i64 (N j), .slice (A j) (Z j).length (C j)] 40)))
          have BX := Lib.hid (Blk.new wr #[.int .i64 (O j), .int .i64 (N j), .slice (A j) (Z j).length (C j)] 40)
          have HBY := Lib.hid (bytes_keep (X := fun _ => False) HBY0.out ((Keep.refl _ wr).alloc (.cells #[.int .i64 (O j), .int .i64 (N j), .slice (A j) (Z j).length (C j)] 40)) (fun _ _ _ h => h))
          generalize wr.alloc (.cells #[.int .i64 (O j), .int .i64 (N j), .slice (A j) (Z j).length (C j)] 40) = wB at *
          obtain ⟨o4, o4', t4, r4, _, _⟩ := JB.out.2.1
          have PC := Lib.hid (tcopy p a.xs a.sy a.ro a.fu o4 wB t4 (by have := JB.out.1.1; omega))
          have R4 := Lib.hid r4
          clear d1 d2 d3 t4 r4
          go_wp2_with fail
          refine PC.out.mono ?_
          rintro e w3 ⟨p2, o2, rfl, t2, hp2, ho2, hb2⟩
          have PR := Lib.hid (rcopy r a.xs a.sy a.ro a.fu o4' w3 (R4.out.keep (X := fun _ => False) (Keep.of_below hb2) (fun _ _ h => h)) JB.out.1.1)
          have H2 := Lib.hid (And.intro t2 (And.intro hp2 (And.intro ho2 hb2)))
          clear t2 hp2 ho2 hb2
          go_wp2_with fail
          refine PR.out.mono ?_
          rintro e w4 ⟨r2, o3', rfl, t3, hr2, ho3, hb3⟩
          have JC := Lib.hid (JB.out.copied H2.out.1 H2.out.2.1 H2.out.2.2.1 H2.out.2.2.2 t3 hr2 ho3 hb3)
          have cx := ((BX.out.beyond H2.out.2.2.2).beyond hb3).cell
          replace HBY := Lib.hid (bytes_keep (X := fun _ => False) (bytes_keep (X := fun _ => False) HBY.out (Keep.of_below H2.out.2.2.2) (fun _ _ _ h => h)) (Keep.of_below hb3) (fun _ _ _ h => h))
          clear t3 hr2 ho3 hb3
          have PD := Lib.hid (does_any (O j) (N j) (A j) (C j) (Z j) w4 d6 JC.out.2.1 JC.out.1 HBY.out d5 (fun h0 d hd hF => by
            have := HBL.out h0 d hd
            have := JC.out.2.2.1 _ hF
            omega))
          go_wp2_with fail
          refine PD.out.mono ?_
          rintro e w5 ⟨rfl, a', ha', hl'⟩
          obtain ⟨F', inv5⟩ := JC.out.left ha' hl'
          have J5 := Lib.hid inv5
          have SM := Lib.hid (same_two J5.out.2.1 J5.out.1)
          clear ha' hl' inv5
          go_wp2_with fail
          refine SM.out.mono ?_
          rintro e w6 ⟨rfl, hb6⟩
          have J6 := Lib.hid (J5.out.more hb6)
          clear hb6
          go_wp2
          go_roundg (len - (j + 1))
          case measure => omega
          case rel => exact ⟨j + 1, F', a', _, _, by omega, by go_num, rfl, rfl, rfl, J6⟩

        · have dat : ((j : Int) == at') = false := by simpa using hat
          go_upto_region 13 with fail
          have JB := Lib.hid (J.out.more ((Below.refl _ _).alloc (Nat.le_refl _) (.cells #[.int .i64 (O j), .int .i64 (N j), .slice (A j) (Z j).length (C j)] 40)))
          have BX := Lib.hid (Blk.new wr #[.int .i64 (O j), .int .i64 (N j), .slice (A j) (Z j).length (C j)] 40)
          have HBY := Lib.hid (bytes_keep (X := fun _ => False) HBY0.out ((Keep.refl _ wr).alloc (.cells #[.int .i64 (O j), .int .i64 (N j), .slice (A j) (Z j).length (C j)] 40)) (fun _ _ _ h => h))
          generalize wr.alloc (.cells #[.int .i64 (O j), .int .i64 (N j), .slice (A j) (Z j).length (C j)] 40) = wB at *
          have cx := BX.out.cell
          clear d1 d2 d3
          have PD := Lib.hid (does_any (O j) (N j) (A j) (C j) (Z j) wB d6 JB.out.2.1 JB.out.1 HBY.out d5 (fun h0 d hd hF => by
            have := HBL.out h0 d hd
            have := JB.out.2.2.1 _ hF
            omega))
          go_wp2_with fail
          refine PD.out.mono ?_
          rintro e w5 ⟨rfl, a', ha', hl'⟩
          obtain ⟨F', inv5⟩ := JB.out.left ha' hl'
          have J5 := Lib.hid inv5
          have SM := Lib.hid (same_two J5.out.2.1 J5.out.1)
          clear ha' hl' inv5
          go_wp2_with fail
          refine SM.out.mono ?_
          rintro e w6 ⟨rfl, hb6⟩
          have J6 := Lib.hid (J5.out.more hb6)
          clear hb6
          go_wp2
          go_roundg (len - (j + 1))
          case measure => omega
          case rel => exact ⟨j + 1, F', a', _, _, by omega, by go_num, rfl, rfl, rfl, J6⟩

    · obtain rfl : j = len := by omega
      go_upto_region 16 with fail
      have SM := Lib.hid (same_two J.out.2.1 J.out.1)
      have CYH := J.out.2.2.2.2
      rcases CYH with ⟨rfl, rfl⟩ | ⟨p2, r2, G, a2, rfl, rfl, ha2, t2, dis, geG⟩
      · go_wp2_with fail
        refine SM.out.mono ?_
        rintro e w5 ⟨rfl, hb5⟩
        have HB5 := Lib.hid hb5
        clear hb5
        go_wp2
        go_ret
        exact ⟨rfl, J.out.2.2.2.1.trans (HB5.out.mono J.out.2.2.2.1.size)⟩
      · have HT2 := Lib.hid (And.intro ha2 (And.intro t2 (And.intro dis geG)))
        clear ha2 t2 dis geG
        go_wp2_with fail
        refine SM.out.mono ?_
        rintro e w5 ⟨rfl, hb5⟩
        have SM2 := Lib.hid (same_two (HT2.out.2.1.more hb5) HT2.out.1)
        have HB5 := Lib.hid hb5
        clear hb5
        go_wp2_with fail
        refine SM2.out.mono ?_
        rintro e w6 ⟨rfl, hb6⟩
        have HB56 := Lib.hid (HB5.out.trans (hb6.mono HB5.out.size))
        clear hb6
        have T6 := Lib.hid (HT2.out.2.1.more HB56.out)
        have BN := Lib.hid (Blk.new w6 #[.int .u8 1] 5)
        have P9 := Lib.hid (show Calls Try.prog 9 #[.pointer (some ⟨p2, 0, none⟩), .slice (some ⟨w6.heap.size, 0, none⟩) 1 1] (w6.alloc (.cells #[.int .u8 1] 5)) (fun e w' => e = .returned (.int .i64 (appE a2.xs.length 1 a2.ro a2.fu)) ∧ Left G (w6.alloc (.cells #[.int .u8 1] 5)) w' p2 r2 ⟨appB a2.xs [1] a2.ro a2.fu, a2.sy, a2.ro, burn a2.fu⟩ a2) from
          p_append (ys := [1]) (some ⟨w6.heap.size, 0, none⟩) 1 (T6.out.more ((Below.refl _ _).alloc (Nat.le_refl _) _)) HT2.out.1 (fun _ => ⟨w6.heap.size, 0, rfl, fun i hi => by
            obtain rfl : i = 0 := by simpa using hi
            exact BN.out.cell 0⟩) (by decide) (fun _ d hd hG => by cases hd; exact Nat.lt_irrefl _ (T6.out.lt _ hG)))
        go_wp2_with fail
        refine P9.out.mono ?_
        rintro e w7 ⟨rfl, G1, t7, k7, s7⟩
        have T7 := Lib.hid t7
        have K7 := Lib.hid k7
        have S7 := Lib.hid s7
        clear t7 k7 s7
        have BN7 := Lib.hid (Blk.new w7 #[.int .u8 1] 5)
        have P10 := Lib.hid (show Calls Try.prog 25 #[.pointer (some ⟨r2, 0, none⟩), .slice (some ⟨w7.heap.size, 0, none⟩) 1 1] (w7.alloc (.cells #[.int .u8 1] 5)) (fun e w' => e = .returned (.int .i64 (appE a2.xs.length 1 a2.ro a2.fu)) ∧ Left G1 (w7.alloc (.cells #[.int .u8 1] 5)) w' p2 r2 ⟨appB a2.xs [1] a2.ro a2.fu, a2.sy, a2.ro, burn a2.fu⟩ ⟨appB a2.xs [1] a2.ro a2.fu, a2.sy, a2.ro, burn a2.fu⟩) from
          q_append (ys := [1]) (some ⟨w7.heap.size, 0, none⟩) 1 (T7.out.more ((Below.refl _ _).alloc (Nat.le_refl _) _)) HT2.out.1 (fun _ => ⟨w7.heap.size, 0, rfl, fun i hi => by
            obtain rfl : i = 0 := by simpa using hi
            exact BN7.out.cell 0⟩) (by decide) (fun _ d hd hG => by cases hd; exact Nat.lt_irrefl _ (T7.out.lt _ hG)))
        go_wp2_with fail
        refine P10.out.mono ?_
        rintro e w8 ⟨rfl, G2, t8, k8, s8⟩
        have KB : Keep G w6 w8 := (((Keep.refl G w6).alloc (.cells #[.int .u8 1] 5)).trans K7.out).trans' (((Keep.refl G1 w7).alloc (.cells #[.int .u8 1] 5)).trans k8) (fun k e => (S7.out k e).imp id (fun h => by simp at h; omega))
        have J8 := Lib.hid ((J.out.2.1.more HB56.out).keep KB (fun k hk hG => HT2.out.2.2.1 k hG hk))
        have SM8 := Lib.hid (same_two J8.out J.out.1)
        have BE := Lib.hid ((J.out.2.2.2.1.trans (HB56.out.mono J.out.2.2.2.1.size)).trans (KB.below (J.out.2.2.2.1.trans (HB56.out.mono J.out.2.2.2.1.size)).size HT2.out.2.2.2))
        clear t8 k8 s8 KB
        go_wp2_with fail
        refine SM8.out.mono ?_
        rintro e w9 ⟨rfl, hb9⟩
        have HB9 := Lib.hid hb9
        clear hb9
        go_wp2
        go_ret
        exact ⟨by simp, BE.out.trans (HB9.out.mono BE.out.size)⟩

end Go.Proofs.Ytfeljjbelnlojaa
