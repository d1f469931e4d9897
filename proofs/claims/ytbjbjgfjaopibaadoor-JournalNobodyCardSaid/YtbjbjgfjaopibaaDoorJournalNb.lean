/- A journal that no call made (layer 16). -/
import Derived.Test.YtbjbjgfjaopibaaDoorHash
import Derived.Test.YtbjbjgfjaopibaaDoorOpenBase
import Derived.Deep.LoopGhost
import Derived.Lib.SmallJoins
namespace Go.Proofs.YtbjbjgfjaopibaaDoor
open Go Go.ChangeShapes Go.WideShapes Go.ChangeAt Go.RowKit Go.Joins
set_option linter.unusedSimpArgs false
set_option linter.unusedVariables false
set_option maxRecDepth 100000

theorem open_batch {H : Type} {enc : TypeId × Value → H} {w : World} {base : Nat} {spare : Nat → Bool} {held : Bool} {r : Reach} {b0 : Nat} {v : Value} {d : DataW H} {p : List MemPlace}
    (hv : Value.okWide Tryd.prog w r b0 25 v) (h : DataW.Trod enc Tryd.prog w base spare held 25 v d p) :
    ∃ (q1 q2 : Option Addr) (l1 c1 l2 c2 : Nat), v = .agg #[.slice q1 l1 c1, .slice q2 l2 c2] := by
  obtain ⟨v0, v1, y0, y1, m, rfl, rfl, rfl, h0, h1⟩ := open_agg2 Tryd.underlying25 (by kernel_rfl) (by kernel_rfl) hv h
  obtain ⟨q1, l1, c1, e0⟩ := slice_form Tryd.underlying22 h0
  obtain ⟨q2, l2, c2, e1⟩ := slice_form Tryd.underlying23 h1
  simp at e0 e1
  subst e0 e1
  exact ⟨q1, q2, l1, c1, l2, c2, rfl⟩
theorem nbGet (v : Value) (s : ByteArray) (w : World) (P : ∀ w', Below w.heap.size w w' → Calls Tryd.prog 27 #[v] w' fun e w'' => e = .returned (.bool true) ∧ w' = w'') :
    Calls Tryd.prog 8 #[v, .string s] w fun e w' => e = .returned (.tuple #[.slice none 0 0, .bool false]) ∧ Below w.heap.size w w' := by
  have P := Lib.hid P
  have K0 := Lib.hid (Below.refl w.heap.size w)
  go_enter Tryd.func8, Tryd.ntmps8
  go_wp2_with fail
  refine (P.out _ K0.out).mono ?_
  rintro e w1 ⟨rfl, rfl⟩
  go_wp2
  go_ret2
  exact ⟨rfl, K0.out⟩
theorem nbCommit (v : Value) (q1 q2 : Option Addr) (l1 c1 l2 c2 : Nat) (w : World) (P : ∀ w', Below w.heap.size w w' → Calls Tryd.prog 27 #[v] w' fun e w'' => e = .returned (.bool true) ∧ w' = w'') :
    Calls Tryd.prog 9 #[v, .agg #[.slice q1 l1 c1, .slice q2 l2 c2]] w fun e w' => e = .returned (.int .i64 2) ∧ Below w.heap.size w w' := by
  have P := Lib.hid P
  have K0 := Lib.hid ((Below.refl w.heap.size w).alloc (Nat.le_refl _) (.cells #[.slice q1 l1 c1, .slice q2 l2 c2] 25))
  go_enter Tryd.func9, Tryd.ntmps9
  go_upto_region 1 with fail
  generalize w.alloc (.cells #[.slice q1 l1 c1, .slice q2 l2 c2] 25) = w0 at *
  go_wp2_with fail
  refine (P.out _ K0.out).mono ?_
  rintro e w1 ⟨rfl, rfl⟩
  go_wp2
  go_ret
  exact ⟨rfl, K0.out⟩
theorem nbKeys (v : Value) (s : ByteArray) (w : World) (P : ∀ w', Below w.heap.size w w' → Calls Tryd.prog 27 #[v] w' fun e w'' => e = .returned (.bool true) ∧ w' = w'') :
    Calls Tryd.prog 10 #[v, .string s] w fun e w' => e = .returned (.slice none 0 0) ∧ Below w.heap.size w w' := by
  have P := Lib.hid P
  have K0 := Lib.hid ((Below.refl w.heap.size w).alloc (Nat.le_refl _) (.cells #[.string s] 9))
  go_enter Tryd.func10, Tryd.ntmps10
  go_upto_region 1 with fail
  generalize w.alloc (.cells #[.string s] 9) = w0 at *
  go_wp2_with fail
  refine (P.out _ K0.out).mono ?_
  rintro e w1 ⟨rfl, rfl⟩
  go_wp2
  go_ret
  exact ⟨rfl, K0.out⟩
theorem nbBatches (v : Value) (w : World) (P : ∀ w', Below w.heap.size w w' → Calls Tryd.prog 27 #[v] w' fun e w'' => e = .returned (.bool true) ∧ w' = w'') :
    Calls Tryd.prog 11 #[v] w fun e w' => e = .returned (.int .i64 0) ∧ Below w.heap.size w w' := by
  have P := Lib.hid P
  have K0 := Lib.hid (Below.refl w.heap.size w)
  go_enter Tryd.func11, Tryd.ntmps11
  go_wp2_with fail
  refine (P.out _ K0.out).mono ?_
  rintro e w1 ⟨rfl, rfl⟩
  go_wp2
  go_ret
  exact ⟨rfl, K0.out⟩
theorem nbHalted (v : Value) (w : World) (P : ∀ w', Below w.heap.size w w' → Calls Tryd.prog 27 #[v] w' fun e w'' => e = .returned (.bool true) ∧ w' = w'') :
    Calls Tryd.prog 12 #[v] w fun e w' => e = .returned (.bool false) ∧ Below w.heap.size w w' := by
  have P := Lib.hid P
  have K0 := Lib.hid (Below.refl w.heap.size w)
  go_enter Tryd.func12, Tryd.ntmps12
  go_wp2_with fail
  refine (P.out _ K0.out).mono ?_
  rintro e w1 ⟨rfl, rfl⟩
  go_wp2
  go_ret
  exact ⟨rfl, K0.out⟩
theorem journal_nil (w : World) : Calls Tryd.prog 27 #[.pointer none] w fun e w' => e = .returned (.bool true) ∧ w = w' := by
  go_enter Tryd.func27, Tryd.ntmps27
  go_wp2
  go_ret
  exact ⟨rfl, rfl⟩
theorem journal_zero (z : Nat) (w : World) (h : w.cell? ⟨z, 0, none⟩ = some (.pointer none)) : Calls Tryd.prog 27 #[.pointer (some ⟨z, 0, none⟩)] w fun e w' => e = .returned (.bool true) ∧ w = w' := by
  go_enter Tryd.func27, Tryd.ntmps27
  go_wp2
  go_ret
  exact ⟨rfl, rfl⟩
theorem tape_nil (w : World) : Calls Tryd.prog 43 #[.pointer none] w fun e w' => e = .returned (.bool true) ∧ w = w' := by
  go_enter Tryd.func43, Tryd.ntmps43
  go_wp2
  go_ret
  exact ⟨rfl, rfl⟩
theorem tape_zero (z : Nat) (w : World) (h : w.cell? ⟨z, 0, none⟩ = some (.bool false)) : Calls Tryd.prog 43 #[.pointer (some ⟨z, 0, none⟩)] w fun e w' => e = .returned (.bool true) ∧ w = w' := by
  go_enter Tryd.func43, Tryd.ntmps43
  go_wp2
  go_ret
  exact ⟨rfl, rfl⟩
theorem nbRoom (v : Value) (n : Int) (w : World) (P : Calls Tryd.prog 43 #[v] w fun e w'' => e = .returned (.bool true) ∧ w = w'') :
    Calls Tryd.prog 16 #[v, .int .i64 n] w fun e w' => e = .returned (.int .i64 2) ∧ w = w' := by
  replace P := Lib.hid P
  go_enter Tryd.func16, Tryd.ntmps16
  go_wp2_with fail
  refine P.out.mono ?_
  rintro e w1 ⟨rfl, rfl⟩
  go_wp2
  go_ret
  exact ⟨rfl, rfl⟩
theorem nbOpen (v : Value) (w : World) (P : Calls Tryd.prog 43 #[v] w fun e w'' => e = .returned (.bool true) ∧ w = w'') :
    Calls Tryd.prog 13 #[v] w fun e w' => e = .returned (.tuple #[.pointer none, .int .i64 2]) ∧ w = w' := by
  have P := Lib.hid (nbRoom v (-1) w P)
  go_enter Tryd.func13, Tryd.ntmps13
  go_wp2_with fail
  refine P.out.mono ?_
  rintro e w1 ⟨rfl, rfl⟩
  go_wp2
  go_ret2
  exact ⟨rfl, rfl⟩
/-- what a round finds -/
def JbS (W wx : World) (b z : Nat) (B Z : Array Value) (tb tz t2 : TypeId) : Prop := Blk wx b B tb ∧ Blk wx z Z tz ∧ Blk wx (z + 1) #[.pointer none, .pointer (some ⟨z, 0, none⟩)] t2 ∧ Below W.heap.size W wx
theorem JbS.keep {W wx w' : World} {b z : Nat} {B Z : Array Value} {tb tz t2 : TypeId} (h : JbS W wx b z B Z tb tz t2) (hb : Below wx.heap.size wx w') : JbS W w' b z B Z tb tz t2 := ⟨h.1.beyond hb, h.2.1.beyond hb, h.2.2.1.beyond hb, h.2.2.2.trans (hb.mono h.2.2.2.size)⟩
theorem St.two (w : World) (c1 c2 : Array Value) (t1 t2 : TypeId) : Blk ((w.alloc (.cells c1 t1)).alloc (.cells c2 t2)) w.heap.size c1 t1 ∧ Blk ((w.alloc (.cells c1 t1)).alloc (.cells c2 t2)) (w.heap.size + 1) c2 t2 ∧ Below w.heap.size w ((w.alloc (.cells c1 t1)).alloc (.cells c2 t2)) := by
  have b1 := Blk.new w c1 t1
  have k := (Below.refl (w.alloc (.cells c1 t1)).heap.size (w.alloc (.cells c1 t1))).alloc (Nat.le_refl _) (.cells c2 t2)
  have hs : (w.alloc (.cells c1 t1)).heap.size = w.heap.size + 1 := by simp
  refine ⟨b1.beyond k, ?_, ((Below.refl w.heap.size w).alloc (Nat.le_refl _) _).alloc (by rw [hs]; omega) _⟩
  have := Blk.new (w.alloc (.cells c1 t1)) c2 t2
  rw [hs] at this; exact this
set_option maxHeartbeats 3200000 in
theorem jnobody_walk (q1 q2 : Option Addr) (l1 c1 l2 c2 : Nat) (W : World) :
    Calls Tryd.prog 3 #[.agg #[.slice q1 l1 c1, .slice q2 l2 c2]] W fun e w' => e = .returned (.bool true) ∧ Below W.heap.size W w' := by
  have L0 := St.new3' W #[.slice q1 l1 c1, .slice q2 l2 c2] #[.pointer none, .map none, .int .i64 0, .bool false] #[.pointer none, .pointer (some ⟨W.heap.size + 1, 0, none⟩)] 25 30 26
  have ST : JbS W (((W.alloc (.cells #[.slice q1 l1 c1, .slice q2 l2 c2] 25)).alloc (.cells #[.pointer none, .map none, .int .i64 0, .bool false] 30)).alloc (.cells #[.pointer none, .pointer (some ⟨W.heap.size + 1, 0, none⟩)] 26)) W.heap.size (W.heap.size + 1) #[.slice q1 l1 c1, .slice q2 l2 c2] #[.pointer none, .map none, .int .i64 0, .bool false] 25 30 26 := ⟨L0.at (by simp), L0.at (by simp), L0.at (by simp), L0.below⟩
  clear L0
  go_enter Tryd.func3, Tryd.ntmps3
  go_upto_region 2 with fail
  generalize (((W.alloc (.cells #[.slice q1 l1 c1, .slice q2 l2 c2] 25)).alloc (.cells #[.pointer none, .map none, .int .i64 0, .bool false] 30)).alloc (.cells #[.pointer none, .pointer (some ⟨W.heap.size + 1, 0, none⟩)] 26)) = w0 at *
  have ST := Lib.hid ST
  go_wp2
  go_loopg [15] 2 (fun gh i wx => ∃ k : Nat, k ≤ 2 ∧ i = .int .i64 (k : Int) ∧ gh = 2 - k ∧ Hid (JbS W wx W.heap.size (W.heap.size + 1) #[.slice q1 l1 c1, .slice q2 l2 c2] #[.pointer none, .map none, .int .i64 0, .bool false] 25 30 26))
  case atStart => exact ⟨0, by omega, rfl, rfl, ST.out⟩
  case round =>
    clear ST
    obtain ⟨k, hk, rfl, hg, ST⟩ := hrel
    have cb : wr.cell? ⟨W.heap.size, 0, none⟩ = some (.slice q1 l1 c1) := ST.out.1.cell 0
    have cbb : wr.cell? ⟨W.heap.size, 1, none⟩ = some (.slice q2 l2 c2) := ST.out.1.cell 1
    have hbl := ST.out.1.lt
    have cz : wr.cell? ⟨W.heap.size + 1, 0, none⟩ = some (.pointer none) := ST.out.2.1.cell 0
    have hzl := ST.out.2.1.lt
    have p0 : wr.cell? ⟨W.heap.size + 1 + 1, 0, none⟩ = some (.pointer none) := ST.out.2.2.1.cell 0
    have p1 : wr.cell? ⟨W.heap.size + 1 + 1, 1, none⟩ = some (.pointer (some ⟨W.heap.size + 1, 0, none⟩)) := ST.out.2.2.1.cell 1
    by_cases hlt : k < 2
    · rcases (by omega : k = 0 ∨ k = 1) with rfl | rfl
      · rw [show ((0 : Nat) : Int) = 0 from rfl]
        have NB : ∀ w', Below wr.heap.size wr w' → Calls Tryd.prog 27 #[.pointer none] w' fun e w'' => e = .returned (.bool true) ∧ w' = w'' := fun w' _ => journal_nil w'
        replace NB := Lib.hid NB
        go_wp2_with fail
        refine (nbGet (.pointer none) _ wr NB.out).mono ?_
        rintro e w1 ⟨rfl, b1⟩
        have cb1 := (b1.cell (p := ⟨W.heap.size, 0, none⟩) hbl).trans cb
        have cb2 := (b1.cell (p := ⟨W.heap.size, 1, none⟩) hbl).trans cbb
        have B1 := Lib.hid b1
        clear b1
        go_wp2_with fail
        refine (nbCommit (.pointer none) q1 q2 l1 c1 l2 c2 w1 (fun w' hb => NB.out w' (B1.out.trans (hb.mono B1.out.size)))).mono ?_
        rintro e w2 ⟨rfl, b2⟩
        have B2 := Lib.hid (B1.out.trans (b2.mono B1.out.size))
        clear b2 cb1 cb2
        go_wp2_with fail
        refine (nbKeys (.pointer none) _ w2 (fun w' hb => NB.out w' (B2.out.trans (hb.mono B2.out.size)))).mono ?_
        rintro e w3 ⟨rfl, b3⟩
        have B3 := Lib.hid (B2.out.trans (b3.mono B2.out.size))
        clear b3
        go_wp2_with fail
        refine (nbBatches (.pointer none) w3 (fun w' hb => NB.out w' (B3.out.trans (hb.mono B3.out.size)))).mono ?_
        rintro e w4 ⟨rfl, b4⟩
        have B4 := Lib.hid (B3.out.trans (b4.mono B3.out.size))
        clear b4
        go_wp2_with fail
        refine (nbHalted (.pointer none) w4 (fun w' hb => NB.out w' (B4.out.trans (hb.mono B4.out.size)))).mono ?_
        rintro e w5 ⟨rfl, b5⟩
        have B5 := Lib.hid (B4.out.trans (b5.mono B4.out.size))
        clear b5
        go_wp2
        go_roundg (2 - (0 + 1))
        case measure => omega
        case rel => exact ⟨0 + 1, by omega, rfl, rfl, ST.out.keep B5.out⟩
      · rw [show ((1 : Nat) : Int) = 1 from rfl]
        have NB : ∀ w', Below wr.heap.size wr w' → Calls Tryd.prog 27 #[.pointer (some ⟨W.heap.size + 1, 0, none⟩)] w' fun e w'' => e = .returned (.bool true) ∧ w' = w'' := fun w' hb => journal_zero _ w' ((hb.cell (p := ⟨W.heap.size + 1, 0, none⟩) hzl).trans cz)
        replace NB := Lib.hid NB
        go_wp2_with fail
        refine (nbGet (.pointer (some ⟨W.heap.size + 1, 0, none⟩)) _ wr NB.out).mono ?_
        rintro e w1 ⟨rfl, b1⟩
        have cb1 := (b1.cell (p := ⟨W.heap.size, 0, none⟩) hbl).trans cb
        have cb2 := (b1.cell (p := ⟨W.heap.size, 1, none⟩) hbl).trans cbb
        have B1 := Lib.hid b1
        clear b1
        go_wp2_with fail
        refine (nbCommit (.pointer (some ⟨W.heap.size + 1, 0, none⟩)) q1 q2 l1 c1 l2 c2 w1 (fun w' hb => NB.out w' (B1.out.trans (hb.mono B1.out.size)))).mono ?_
        rintro e w2 ⟨rfl, b2⟩
        have B2 := Lib.hid (B1.out.trans (b2.mono B1.out.size))
        clear b2 cb1 cb2
        go_wp2_with fail
        refine (nbKeys (.pointer (some ⟨W.heap.size + 1, 0, none⟩)) _ w2 (fun w' hb => NB.out w' (B2.out.trans (hb.mono B2.out.size)))).mono ?_
        rintro e w3 ⟨rfl, b3⟩
        have B3 := Lib.hid (B2.out.trans (b3.mono B2.out.size))
        clear b3
        go_wp2_with fail
        refine (nbBatches (.pointer (some ⟨W.heap.size + 1, 0, none⟩)) w3 (fun w' hb => NB.out w' (B3.out.trans (hb.mono B3.out.size)))).mono ?_
        rintro e w4 ⟨rfl, b4⟩
        have B4 := Lib.hid (B3.out.trans (b4.mono B3.out.size))
        clear b4
        go_wp2_with fail
        refine (nbHalted (.pointer (some ⟨W.heap.size + 1, 0, none⟩)) w4 (fun w' hb => NB.out w' (B4.out.trans (hb.mono B4.out.size)))).mono ?_
        rintro e w5 ⟨rfl, b5⟩
        have B5 := Lib.hid (B4.out.trans (b5.mono B4.out.size))
        clear b5
        go_wp2
        go_roundg (2 - (1 + 1))
        case measure => omega
        case rel => exact ⟨1 + 1, by omega, rfl, rfl, ST.out.keep B5.out⟩
    · obtain rfl : k = 2 := by omega
      rw [show ((2 : Nat) : Int) = 2 from rfl]
      have L1 := St.two wr #[.bool false, .slice none 0 0, .int .i64 0, .int .i64 0, .int .i64 0] #[.pointer none, .pointer (some ⟨wr.heap.size, 0, none⟩)] 41 27
      have ST2 : Below W.heap.size W ((wr.alloc (.cells #[.bool false, .slice none 0 0, .int .i64 0, .int .i64 0, .int .i64 0] 41)).alloc (.cells #[.pointer none, .pointer (some ⟨wr.heap.size, 0, none⟩)] 27)) := ST.out.2.2.2.trans (L1.2.2.mono ST.out.2.2.2.size)
      go_upto_region 9 with fail
      generalize ((wr.alloc (.cells #[.bool false, .slice none 0 0, .int .i64 0, .int .i64 0, .int .i64 0] 41)).alloc (.cells #[.pointer none, .pointer (some ⟨wr.heap.size, 0, none⟩)] 27)) = w9 at *
      generalize wr.heap.size = Z at *
      have T0 := Lib.hid (And.intro L1.1 (And.intro L1.2.1 ST2))
      clear L1 ST2 ST cb cbb hbl cz hzl p0 p1
      go_wp2
      go_loopg [49] 2 (fun gh i wx => ∃ k : Nat, k ≤ 2 ∧ i = .int .i64 (k : Int) ∧ gh = 2 - k ∧ wx = w9)
      case atStart => exact ⟨0, by omega, rfl, rfl, rfl⟩
      case round =>
        obtain ⟨k, hk, rfl, hg, rfl⟩ := hrel
        have ST := T0
        have cz : wr.cell? ⟨Z, 0, none⟩ = some (.bool false) := T0.out.1.cell 0
        have p0 : wr.cell? ⟨Z + 1, 0, none⟩ = some (.pointer none) := T0.out.2.1.cell 0
        have p1 : wr.cell? ⟨Z + 1, 1, none⟩ = some (.pointer (some ⟨Z, 0, none⟩)) := T0.out.2.1.cell 1
        by_cases hlt : k < 2
        · rcases (by omega : k = 0 ∨ k = 1) with rfl | rfl
          · rw [show ((0 : Nat) : Int) = 0 from rfl]
            have NT := Lib.hid (nbOpen (.pointer none) wr (tape_nil wr))
            go_wp2_with fail
            refine NT.out.mono ?_
            rintro e w1 ⟨rfl, rfl⟩
            go_wp2
            go_roundg (2 - (0 + 1))
            case measure => omega
            case rel => exact ⟨0 + 1, by omega, rfl, rfl, rfl⟩
          · rw [show ((1 : Nat) : Int) = 1 from rfl]
            have NT := Lib.hid (nbOpen (.pointer (some ⟨Z, 0, none⟩)) wr (tape_zero Z wr cz))
            go_wp2_with fail
            refine NT.out.mono ?_
            rintro e w1 ⟨rfl, rfl⟩
            go_wp2
            go_roundg (2 - (1 + 1))
            case measure => omega
            case rel => exact ⟨1 + 1, by omega, rfl, rfl, rfl⟩
        · obtain rfl : k = 2 := by omega
          rw [show ((2 : Nat) : Int) = 2 from rfl]
          go_wp2
          go_ret
          exact ⟨rfl, T0.out.2.2⟩
end Go.Proofs.YtbjbjgfjaopibaaDoor
