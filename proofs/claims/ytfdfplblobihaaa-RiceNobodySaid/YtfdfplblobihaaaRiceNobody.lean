/- A writer and a reader that no call made; the law RiceNobody. -/
import Derived.Test.YtfdfplblobihaaaRows
import Derived.Test.YtfdfplblobihaaaWideBase
import Derived.BigQuiet
import Derived.StillTailTactics
import Derived.Deep.LoopGhost
import Derived.WalkMore
import Derived.ScopeJumps
import Derived.Lib.SmallJoins
namespace Go.Proofs.Ytfdfplblobihaaa
open Go Go.RowKit
set_option linter.unusedSimpArgs false

theorem wnone_nil (w : World) : Calls Try.prog 22 #[.pointer none] w fun e w' => e = .returned (.bool true) ∧ w = w' := by
  go_enter Try.func22, Try.ntmps22
  go_wp2
  go_ret
  exact ⟨rfl, rfl⟩
theorem wnone (p : Nat) (b : Bool) (w : World) (h : w.cell? ⟨p, 0, none⟩ = some (.bool b)) : Calls Try.prog 22 #[.pointer (some ⟨p, 0, none⟩)] w fun e w' => e = .returned (.bool (!b)) ∧ w = w' := by
  go_enter Try.func22, Try.ntmps22
  go_wp2
  go_ret
  exact ⟨rfl, rfl⟩
theorem rnone_nil (w : World) : Calls Try.prog 25 #[.pointer none] w fun e w' => e = .returned (.bool true) ∧ w = w' := by
  go_enter Try.func25, Try.ntmps25
  go_wp2
  go_ret
  exact ⟨rfl, rfl⟩
theorem rnone (p : Nat) (b : Bool) (w : World) (h : w.cell? ⟨p, 0, none⟩ = some (.bool b)) : Calls Try.prog 25 #[.pointer (some ⟨p, 0, none⟩)] w fun e w' => e = .returned (.bool (!b)) ∧ w = w' := by
  go_enter Try.func25, Try.ntmps25
  go_wp2
  go_ret
  exact ⟨rfl, rfl⟩
theorem nb_wbit (v : Value) (b : Bool) (w : World) (P : Calls Try.prog 22 #[v] w fun e w' => e = .returned (.bool true) ∧ w = w') : Calls Try.prog 8 #[v, .bool b] w fun e w' => e = .returned (.int .i64 2) ∧ w = w' := by
  replace P := Lib.hid P
  go_enter Try.func8, Try.ntmps8
  go_wp2_with fail
  refine P.out.mono ?_
  rintro e w1 ⟨rfl, rfl⟩
  go_wp2
  go_ret
  exact ⟨rfl, rfl⟩
theorem nb_wbits (v : Value) (n c : Int) (w : World) (P : Calls Try.prog 22 #[v] w fun e w' => e = .returned (.bool true) ∧ w = w') : Calls Try.prog 10 #[v, .int .u64 n, .int .i64 c] w fun e w' => e = .returned (.int .i64 2) ∧ w = w' := by
  replace P := Lib.hid P
  go_enter Try.func10, Try.ntmps10
  go_wp2_with fail
  refine P.out.mono ?_
  rintro e w1 ⟨rfl, rfl⟩
  go_wp2
  go_ret
  exact ⟨rfl, rfl⟩
theorem nb_wrice (v : Value) (n c : Int) (w : World) (P : Calls Try.prog 22 #[v] w fun e w' => e = .returned (.bool true) ∧ w = w') : Calls Try.prog 12 #[v, .int .u64 n, .int .i64 c] w fun e w' => e = .returned (.int .i64 2) ∧ w = w' := by
  replace P := Lib.hid P
  go_enter Try.func12, Try.ntmps12
  go_wp2
  go_step3
  go_wp2_with fail
  refine P.out.mono ?_
  rintro e w1 ⟨rfl, rfl⟩
  go_wp2
  try rw [Exit.noGoto_ret]
  go_ret
  exact ⟨rfl, rfl⟩
theorem nb_wbytes (v : Value) (w : World) (P : Calls Try.prog 22 #[v] w fun e w' => e = .returned (.bool true) ∧ w = w') : Calls Try.prog 15 #[v] w fun e w' => e = .returned (.slice none 0 0) ∧ w = w' := by
  replace P := Lib.hid P
  go_enter Try.func15, Try.ntmps15
  go_wp2_with fail
  refine P.out.mono ?_
  rintro e w1 ⟨rfl, rfl⟩
  go_wp2
  go_ret
  exact ⟨rfl, rfl⟩
theorem nb_rbit (v : Value) (w : World) (P : Calls Try.prog 25 #[v] w fun e w' => e = .returned (.bool true) ∧ w = w') : Calls Try.prog 20 #[v] w fun e w' => e = .returned (.tuple #[.bool false, .int .i64 2]) ∧ w = w' := by
  replace P := Lib.hid P
  go_enter Try.func20, Try.ntmps20
  go_wp2_with fail
  refine P.out.mono ?_
  rintro e w1 ⟨rfl, rfl⟩
  go_wp2
  go_ret2
  exact ⟨rfl, rfl⟩
theorem nb_rbits (v : Value) (c : Int) (w : World) (P : Calls Try.prog 25 #[v] w fun e w' => e = .returned (.bool true) ∧ w = w') : Calls Try.prog 18 #[v, .int .i64 c] w fun e w' => e = .returned (.tuple #[.int .u64 0, .int .i64 2]) ∧ w = w' := by
  replace P := Lib.hid P
  go_enter Try.func18, Try.ntmps18
  go_wp2_with fail
  refine P.out.mono ?_
  rintro e w1 ⟨rfl, rfl⟩
  go_wp2
  go_ret2
  exact ⟨rfl, rfl⟩
theorem nb_rrice (v : Value) (c n : Int) (w : World) (P : Calls Try.prog 25 #[v] w fun e w' => e = .returned (.bool true) ∧ w = w') : Calls Try.prog 21 #[v, .int .i64 c, .int .u64 n] w fun e w' => e = .returned (.tuple #[.int .u64 0, .int .i64 2]) ∧ w = w' := by
  replace P := Lib.hid P
  go_enter Try.func21, Try.ntmps21
  go_wp2
  go_step3
  go_wp2_with fail
  refine P.out.mono ?_
  rintro e w1 ⟨rfl, rfl⟩
  go_wp2
  try rw [Exit.noGoto_ret]
  go_ret2
  exact ⟨rfl, rfl⟩
theorem nb_rleft (v : Value) (w : World) (P : Calls Try.prog 25 #[v] w fun e w' => e = .returned (.bool true) ∧ w = w') : Calls Try.prog 19 #[v] w fun e w' => e = .returned (.int .i64 0) ∧ w = w' := by
  replace P := Lib.hid P
  go_enter Try.func19, Try.ntmps19
  go_wp2_with fail
  refine P.out.mono ?_
  rintro e w1 ⟨rfl, rfl⟩
  go_wp2
  go_ret
  exact ⟨rfl, rfl⟩
theorem St.new3r (w : World) (c0 c1 c2 : Array Value) (t0 t1 t2 : TypeId) : St w.heap.size w (((w.alloc (.cells c0 t0)).alloc (.cells c1 t1)).alloc (.cells c2 t2)) [(w.heap.size + 1 + 1, c2, t2), (w.heap.size + 1, c1, t1), (w.heap.size, c0, t0)] := by
  have h := (St.new2 w c0 c1 t0 t1).new c2 t2
  rw [show ((w.alloc (.cells c0 t0)).alloc (.cells c1 t1)).heap.size = w.heap.size + 1 + 1 from by simp] at h
  exact h
theorem St.both {W w : World} {l : List (Nat × Array Value × TypeId)} (h : St W.heap.size W w l) (c0 c1 : Array Value) (t0 t1 : TypeId) : St W.heap.size W ((w.alloc (.cells c0 t0)).alloc (.cells c1 t1)) ((w.heap.size + 1, c1, t1) :: (w.heap.size, c0, t0) :: l) := by
  have h2 := (h.new c0 t0).new c1 t1
  rw [show (w.alloc (.cells c0 t0)).heap.size = w.heap.size + 1 from by simp] at h2
  exact h2
set_option maxRecDepth 100000 in
set_option maxHeartbeats 3200000 in
theorem nobody_walk (op c n : Int) (w : World) :
    Calls Try.prog 5 #[.agg #[.int .i64 op, .int .i64 c, .int .u64 n]] w fun e w' => e = .returned (.bool true) ∧ Below w.heap.size w w' := by
  have L := St.new3r w #[.int .i64 op, .int .i64 c, .int .u64 n] #[.bool false, .slice none 0 0, .int .i64 0] #[.pointer none, .pointer (some ⟨w.heap.size + 1, 0, none⟩)] 31 47 23
  go_enter Try.func5, Try.ntmps5
  go_upto_region 2 with fail
  generalize ((w.alloc (.cells #[.int .i64 op, .int .i64 c, .int .u64 n] 31)).alloc (.cells #[.bool false, .slice none 0 0, .int .i64 0] 47)).alloc (.cells #[.pointer none, .pointer (some ⟨w.heap.size + 1, 0, none⟩)] 23) = v0 at *
  have A0 := L.at (b := w.heap.size) (c := #[.int .i64 op, .int .i64 c, .int .u64 n]) (t := 31) (by simp)
  have A1 := L.at (b := w.heap.size + 1) (c := #[.bool false, .slice none 0 0, .int .i64 0]) (t := 47) (by simp)
  have A2 := L.at (b := w.heap.size + 1 + 1) (c := #[.pointer none, .pointer (some ⟨w.heap.size + 1, 0, none⟩)]) (t := 23) (by simp)
  have HA := Lib.hid (And.intro A0 (And.intro A1 A2))
  have HL := Lib.hid L
  clear A0 A1 A2 L
  go_loopg [17] 2 (fun g i wx => ∃ k : Nat, k ≤ 2 ∧ i = .int .i64 k ∧ g = 2 - k ∧ wx = v0)
  case atStart => exact ⟨0, by omega, rfl, rfl, rfl⟩
  case round =>
    obtain ⟨k, hk, rfl, rfl, rfl⟩ := hrel
    by_cases hlt : k < 2
    · obtain ⟨A0, A1, A2⟩ := HA.out
      rcases (by omega : k = 0 ∨ k = 1) with rfl | rfl
      · rw [show ((0 : Nat) : Int) = 0 from rfl]
        have NB := Lib.hid (show Calls Try.prog 22 #[.pointer none] wr (fun e w'' => e = .returned (.bool true) ∧ wr = w'') from wnone_nil _)
        have a0 := A0.cell
        have a2 := A2.cell
        go_wp2_with fail
        refine (nb_wbit _ _ _ (NB.out)).mono ?_
        rintro e w1 ⟨rfl, rfl⟩
        go_wp2_with fail
        refine (nb_wbits _ _ _ _ (NB.out)).mono ?_
        rintro e w1 ⟨rfl, rfl⟩
        go_wp2_with fail
        refine (nb_wrice _ _ _ _ (NB.out)).mono ?_
        rintro e w1 ⟨rfl, rfl⟩
        go_wp2_with fail
        refine (nb_wbytes _ _ (NB.out)).mono ?_
        rintro e w1 ⟨rfl, rfl⟩
        go_wp2
        go_roundg (2 - (0 + 1))
        case measure => omega
        case rel => exact ⟨0 + 1, by omega, by simp, rfl, rfl⟩
      · rw [show ((1 : Nat) : Int) = 1 from rfl]
        have NB := Lib.hid (show Calls Try.prog 22 #[.pointer (some ⟨w.heap.size + 1, 0, none⟩)] wr (fun e w'' => e = .returned (.bool true) ∧ wr = w'') from wnone _ false _ (A1.cell 0))
        have a0 := A0.cell
        have a2 := A2.cell
        go_wp2_with fail
        refine (nb_wbit _ _ _ (NB.out)).mono ?_
        rintro e w1 ⟨rfl, rfl⟩
        go_wp2_with fail
        refine (nb_wbits _ _ _ _ (NB.out)).mono ?_
        rintro e w1 ⟨rfl, rfl⟩
        go_wp2_with fail
        refine (nb_wrice _ _ _ _ (NB.out)).mono ?_
        rintro e w1 ⟨rfl, rfl⟩
        go_wp2_with fail
        refine (nb_wbytes _ _ (NB.out)).mono ?_
        rintro e w1 ⟨rfl, rfl⟩
        go_wp2
        go_roundg (2 - (1 + 1))
        case measure => omega
        case rel => exact ⟨1 + 1, by omega, by simp, rfl, rfl⟩
    · obtain rfl : k = 2 := by omega
      have L2 := Lib.hid (St.both HL.out #[.bool false, .slice none 0 0, .int .i64 0] #[.pointer none, .pointer (some ⟨wr.heap.size, 0, none⟩)] 50 41)
      clear HA HL
      go_upto_region 8 with fail
      generalize (wr.alloc (.cells #[.bool false, .slice none 0 0, .int .i64 0] 50)).alloc (.cells #[.pointer none, .pointer (some ⟨wr.heap.size, 0, none⟩)] 41) = v1 at *
      generalize wr.heap.size = g0 at *
      go_loopg [53] 2 (fun g i wx => ∃ k : Nat, k ≤ 2 ∧ i = .int .i64 k ∧ g = 2 - k ∧ wx = v1)
      case atStart => exact ⟨0, by omega, rfl, rfl, rfl⟩
      case round =>
        obtain ⟨k, hk, rfl, rfl, rfl⟩ := hrel
        by_cases hlt : k < 2
        · have B0 := L2.out.at (b := w.heap.size) (c := #[.int .i64 op, .int .i64 c, .int .u64 n]) (t := 31) (by simp)
          have B1 := L2.out.at (b := g0) (c := #[.bool false, .slice none 0 0, .int .i64 0]) (t := 50) (by simp)
          have B2 := L2.out.at (b := g0 + 1) (c := #[.pointer none, .pointer (some ⟨g0, 0, none⟩)]) (t := 41) (by simp)
          rcases (by omega : k = 0 ∨ k = 1) with rfl | rfl
          · rw [show ((0 : Nat) : Int) = 0 from rfl]
            have NB := Lib.hid (show Calls Try.prog 25 #[.pointer none] wr (fun e w'' => e = .returned (.bool true) ∧ wr = w'') from rnone_nil _)
            have b0 := B0.cell
            have b2 := B2.cell
            go_wp2_with fail
            refine (nb_rbit _ _ (NB.out)).mono ?_
            rintro e w1 ⟨rfl, rfl⟩
            go_wp2_with fail
            refine (nb_rbits _ _ _ (NB.out)).mono ?_
            rintro e w1 ⟨rfl, rfl⟩
            go_wp2_with fail
            refine (nb_rrice _ _ _ _ (NB.out)).mono ?_
            rintro e w1 ⟨rfl, rfl⟩
            go_wp2_with fail
            refine (nb_rleft _ _ (NB.out)).mono ?_
            rintro e w1 ⟨rfl, rfl⟩
            go_wp2
            go_roundg (2 - (0 + 1))
            case measure => omega
            case rel => exact ⟨0 + 1, by omega, by simp, rfl, rfl⟩
          · rw [show ((1 : Nat) : Int) = 1 from rfl]
            have NB := Lib.hid (show Calls Try.prog 25 #[.pointer (some ⟨g0, 0, none⟩)] wr (fun e w'' => e = .returned (.bool true) ∧ wr = w'') from rnone _ false _ (B1.cell 0))
            have b0 := B0.cell
            have b2 := B2.cell
            go_wp2_with fail
            refine (nb_rbit _ _ (NB.out)).mono ?_
            rintro e w1 ⟨rfl, rfl⟩
            go_wp2_with fail
            refine (nb_rbits _ _ _ (NB.out)).mono ?_
            rintro e w1 ⟨rfl, rfl⟩
            go_wp2_with fail
            refine (nb_rrice _ _ _ _ (NB.out)).mono ?_
            rintro e w1 ⟨rfl, rfl⟩
            go_wp2_with fail
            refine (nb_rleft _ _ (NB.out)).mono ?_
            rintro e w1 ⟨rfl, rfl⟩
            go_wp2
            go_roundg (2 - (1 + 1))
            case measure => omega
            case rel => exact ⟨1 + 1, by omega, by simp, rfl, rfl⟩
        · obtain rfl : k = 2 := by omega
          go_wp2
          go_ret
          exact ⟨rfl, L2.out.below⟩
open Go.Joins Go.ChangeShapes Go.WideShapes Go.ChangeAt in
/-- A Do BY VALUE: three integers -/
theorem open_rdo {H : Type} {enc : TypeId × Value → H} {w : World} {base : Nat} {spare : Nat → Bool} {held : Bool} {r : Reach} {b0 : Nat} {v : Value} {d : DataW H} {p : List MemPlace}
    (hv : Value.okWide Try.prog w r b0 31 v) (h : DataW.Trod enc Try.prog w base spare held 31 v d p) :
    ∃ (op c n : Int), v = .agg #[.int .i64 op, .int .i64 c, .int .u64 n] := by
  obtain ⟨v0, v1, v2, y0, y1, y2, m, rfl, rfl, rfl, h0, h1, h2⟩ := open_agg3 Try.underlying31 (by kernel_rfl) (by kernel_rfl) hv h
  obtain ⟨a, e0, _, _⟩ := DataW.trod_int Try.underlying3 h0
  obtain ⟨b, e1, _, _⟩ := DataW.trod_int Try.underlying3 h1
  obtain ⟨c, e2, _, _⟩ := DataW.trod_int Try.underlying29 h2
  simp at e0 e1 e2
  subst e0 e1 e2
  exact ⟨a, b, c, rfl⟩
end Go.Proofs.Ytfdfplblobihaaa
