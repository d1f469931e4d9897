/- The walks of layer 15: the tape's methods. -/
import Derived.Test.YtfeljjbelnlojaaRows
import Derived.Test.YtfeljjbelnlojaaMem
import Derived.Test.YtfeljjbelnlojaaShelf
import Derived.BigQuiet
import Derived.StillTailTactics
namespace Go.Proofs.Ytfeljjbelnlojaa
open Go Go.RowKit
set_option linter.unusedSimpArgs false

theorem tnobody_nil (w : World) : Calls Try.prog 26 #[.pointer none] w fun e w' => e = .returned (.bool true) ∧ w = w' := by
  go_enter Try.func26, Try.ntmps26
  go_wp2
  go_ret
  exact ⟨rfl, rfl⟩
theorem tnobody (p : Nat) (b : Bool) (w : World) (h : w.cell? ⟨p, 0, none⟩ = some (.bool b)) : Calls Try.prog 26 #[.pointer (some ⟨p, 0, none⟩)] w fun e w' => e = .returned (.bool (!b)) ∧ w = w' := by
  go_enter Try.func26, Try.ntmps26
  go_wp2
  go_ret
  exact ⟨rfl, rfl⟩
/-- a change taken off the fuse -/
def burn (fu : Int) : Int := if 0 < fu then fu - 1 else fu
def burnE (fu : Int) : Int := if fu = 0 then 150 else 0
theorem tchange (p : Nat) (m v s r : Value) (fu : Int) (w : World) (hb : Blk w p #[m, v, s, r, .int .i64 fu] 42) (h0 : -1 ≤ fu) (h1 : fu ≤ 9223372036854775807) :
    Calls Try.prog 27 #[.pointer (some ⟨p, 0, none⟩)] w fun e w' => e = .returned (.int .i64 (burnE fu)) ∧ Blk w' p #[m, v, s, r, .int .i64 (burn fu)] 42 ∧ Keep (fun k => k = p) w w' := by
  have c := hb.cell 4
  have f := hb.free 4
  rw [show (#[m, v, s, r, Value.int .i64 fu] : Array Value)[4]? = some (.int .i64 fu) from rfl] at c
  have hB := Lib.hid hb
  clear hb
  by_cases hz : fu = 0
  · subst hz
    go_enter Try.func27, Try.ntmps27
    go_wp2
    go_ret
    exact ⟨rfl, hB.out, Keep.refl _ _⟩
  · have z1 : (fu == 0) = false := by simpa using hz
    have HE := Lib.hid (show burnE fu = 0 from if_neg hz)
    by_cases hp : 0 < fu
    · have HB := Lib.hid (show burn fu = fu - 1 from if_pos hp)
      go_enter Try.func27, Try.ntmps27
      go_wp2
      go_ret
      exact ⟨by rw [HE.out]; rfl, by rw [HB.out]; exact hB.out.set 4 _, Keep.set (X := fun k => k = p) (Keep.refl _ _) (.inl rfl) _⟩
    · have HB := Lib.hid (show burn fu = fu from if_neg hp)
      go_enter Try.func27, Try.ntmps27
      go_wp2
      go_ret
      exact ⟨by rw [HE.out]; rfl, by rw [HB.out]; exact hB.out, Keep.refl _ _⟩
theorem tkeep (p : Nat) (m s r f : Value) (q : Option Addr) (len cap n : Nat) (w : World) (hb : Blk w p #[m, .slice q len cap, s, r, f] 42) (hn : n ≤ cap) :
    Calls Try.prog 28 #[.pointer (some ⟨p, 0, none⟩), .int .i64 (n : Int)] w fun e w' => e = .returned (.tuple #[]) ∧ Blk w' p #[m, .slice q n n, .int .i64 (n : Int), r, f] 42 ∧ Keep (fun k => k = p) w w' := by
  have c := hb.cell
  have f' := hb.free
  have hB := Lib.hid hb
  clear hb
  go_enter Try.func28, Try.ntmps28
  go_wp2
  go_end0
  exact ⟨rfl, (hB.out.set 1 _).set 2 _, Keep.set (X := fun k => k = p) (Keep.set (X := fun k => k = p) (Keep.refl _ _) (.inl rfl) _) (.inl rfl) _⟩
/-- a tape that a call made, in memory: its bytes, how many are synced, its room, its fuse; o: the block of its bytes -/
def TapeAt (w : World) (p : Nat) (xs : List Int) (sy ro fu : Int) (o : Option Nat) : Prop :=
  ∃ v, Blk w p #[.bool true, v, .int .i64 sy, .int .i64 ro, .int .i64 fu] 42 ∧ Row w 5 v xs o ∧ o ≠ some p
/-- the blocks of a tape -/
def foot (p : Nat) (o : Option Nat) : Nat → Prop := fun k => k = p ∨ o = some k
theorem TapeAt.keep {X : Nat → Prop} {w w' : World} {p : Nat} {xs : List Int} {sy ro fu : Int} {o : Option Nat} (h : TapeAt w p xs sy ro fu o) (hk : Keep X w w') (hn : ∀ k, foot p o k → ¬ X k) : TapeAt w' p xs sy ro fu o := by
  obtain ⟨v, h1, h2, h3⟩ := h
  exact ⟨v, hk.blk h1 (hn p (.inl rfl)), h2.keep hk (fun g hg => hn g (.inr hg)), h3⟩
theorem TapeAt.lt {w : World} {p : Nat} {xs : List Int} {sy ro fu : Int} {o : Option Nat} (h : TapeAt w p xs sy ro fu o) : ∀ k, foot p o k → k < w.heap.size := by
  obtain ⟨v, h1, h2, h3⟩ := h
  rintro k (rfl | hk)
  · exact h1.lt
  · exact h2.lt k hk
theorem u8info : (Try.prog.info? 5).map (fun i => (i.zero, i.size, i.bytes)) = some (some (.int .u8 0), 1, 1) := by kernel_rfl

theorem tsynced (p : Nat) (xs : List Int) (sy ro fu : Int) (o : Option Nat) (w : World) (h : TapeAt w p xs sy ro fu o) :
    Calls Try.prog 13 #[.pointer (some ⟨p, 0, none⟩)] w fun e w' => e = .returned (.int .i64 sy) ∧ w = w' := by
  obtain ⟨v, h1, h2, h3⟩ := h
  have c := h1.cell
  have P := Lib.hid (tnobody p true w (h1.cell 0))
  go_enter Try.func13, Try.ntmps13
  go_wp2_with fail
  refine P.out.mono ?_
  rintro e w1 ⟨rfl, rfl⟩
  go_wp2
  go_ret
  exact ⟨rfl, rfl⟩
/-- Bytes: a copy of all, in memory of the call's own -/
theorem tbytes (p : Nat) (xs : List Int) (sy ro fu : Int) (o : Option Nat) (w : World) (h : TapeAt w p xs sy ro fu o) (hl : xs.length ≤ 140737488355328) :
    Calls Try.prog 10 #[.pointer (some ⟨p, 0, none⟩)] w fun e w' => ∃ q c o', e = .returned (.slice q xs.length c) ∧ Row w' 5 (.slice q xs.length c) xs o' ∧ (∀ g, o' = some g → w.heap.size ≤ g) ∧ Below w.heap.size w w' := by
  obtain ⟨v, h1, h2, h3⟩ := h
  have c := h1.cell
  have P := Lib.hid (tnobody p true w (h1.cell 0))
  obtain ⟨q, cc, rfl, hb, hle, hm, hq⟩ := h2.form
  rcases hq with ⟨rfl, rfl, rfl, rfl⟩ | ⟨g, rfl, rfl, hg⟩
  · have Q := Lib.hid (Try.bytes_Clone_nil 0 0 w)
    go_enter Try.func10, Try.ntmps10
    go_wp2_with fail
    refine P.out.mono ?_
    rintro e w1 ⟨rfl, rfl⟩
    go_wp2_with fail
    refine Q.out.mono ?_
    rintro e w1 ⟨rfl, rfl⟩
    go_wp2
    go_ret
    exact ⟨none, 0, none, rfl, Row.nil _ _, fun g hg => by (cases hg), Below.refl _ _⟩
  · have Q := Lib.hid (Try.bytes_Clone_at ⟨g, 0, none⟩ xs.length cc xs w rfl hl (fun i hi => by
      obtain ⟨b, o2, e1, hc⟩ := hb.at (by omega)
      simp at e1; obtain ⟨rfl, rfl⟩ := e1
      rw [Addr.add_lit]; exact hc i hi))
    go_enter Try.func10, Try.ntmps10
    go_wp2_with fail
    refine P.out.mono ?_
    rintro e w1 ⟨rfl, rfl⟩
    go_wp2_with fail
    refine Q.out.mono ?_
    rintro e w1 ⟨v', rfl, hown, hne, hbel⟩
    obtain ⟨o', r1, r2, r3⟩ := Row.of_owns hown
    obtain ⟨q', c', rfl, _⟩ := r1.form
    go_wp2
    go_ret
    exact ⟨q', c', o', rfl, r1, fun g hg => (r2 g hg).1, hbel⟩
/-- the answers of Fuse and Room, and what is there behind them -/
def fuseE (n : Int) : Int := if n < 0 then 1 else 0
def fuseN (n fu : Int) : Int := if n < 0 then fu else n
def roomE (n : Int) : Int := if n < 0 ∨ 16777216 < n then 1 else 0
def roomN (n ro : Int) : Int := if n < 0 ∨ 16777216 < n then ro else n
theorem tfuse (p : Nat) (xs : List Int) (sy ro fu n : Int) (o : Option Nat) (w : World) (h : TapeAt w p xs sy ro fu o) :
    Calls Try.prog 17 #[.pointer (some ⟨p, 0, none⟩), .int .i64 n] w fun e w' => e = .returned (.int .i64 (fuseE n)) ∧ TapeAt w' p xs sy ro (fuseN n fu) o ∧ Keep (foot p o) w w' := by
  obtain ⟨v, h1, h2, h3⟩ := h
  have c := h1.cell
  have f := h1.free
  have P := Lib.hid (tnobody p true w (h1.cell 0))
  have H1 := Lib.hid h1
  have H2 := Lib.hid h2
  have H3 := Lib.hid h3
  clear h1 h2 h3
  by_cases hn : n < 0
  · have HE := Lib.hid (show fuseE n = 1 from if_pos hn)
    have HF := Lib.hid (show fuseN n fu = fu from if_pos hn)
    go_enter Try.func17, Try.ntmps17
    go_wp2_with fail
    refine P.out.mono ?_
    rintro e w1 ⟨rfl, rfl⟩
    go_wp2
    go_ret
    exact ⟨by rw [HE.out]; rfl, by rw [HF.out]; exact ⟨v, H1.out, H2.out, H3.out⟩, Keep.refl _ _⟩
  · have HE := Lib.hid (show fuseE n = 0 from if_neg hn)
    have HF := Lib.hid (show fuseN n fu = n from if_neg hn)
    go_enter Try.func17, Try.ntmps17
    go_wp2_with fail
    refine P.out.mono ?_
    rintro e w1 ⟨rfl, rfl⟩
    go_wp2
    go_ret
    have K := Keep.set (X := fun k => k = p) (Keep.refl _ w) (p := ⟨p, 4, none⟩) (.inl rfl) (.int .i64 n)
    exact ⟨by rw [HE.out]; rfl, by rw [HF.out]; exact ⟨v, H1.out.set 4 _, H2.out.keep K (fun g hg e => H3.out (by rw [hg, e])), H3.out⟩, K.mono fun k e => .inl e⟩
theorem troom (p : Nat) (xs : List Int) (sy ro fu n : Int) (o : Option Nat) (w : World) (h : TapeAt w p xs sy ro fu o) :
    Calls Try.prog 11 #[.pointer (some ⟨p, 0, none⟩), .int .i64 n] w fun e w' => e = .returned (.int .i64 (roomE n)) ∧ TapeAt w' p xs sy (roomN n ro) fu o ∧ Keep (foot p o) w w' := by
  obtain ⟨v, h1, h2, h3⟩ := h
  have c := h1.cell
  have f := h1.free
  have P := Lib.hid (tnobody p true w (h1.cell 0))
  have H1 := Lib.hid h1
  have H2 := Lib.hid h2
  have H3 := Lib.hid h3
  clear h1 h2 h3
  by_cases hn : n < 0 ∨ 16777216 < n
  · have HE := Lib.hid (show roomE n = 1 from if_pos hn)
    have HF := Lib.hid (show roomN n ro = ro from if_pos hn)
    by_cases h0 : n < 0
    · have d1 : decide (n < 0) = true := decide_eq_true h0
      clear hn
      go_enter Try.func11, Try.ntmps11
      go_wp2_with fail
      refine P.out.mono ?_
      rintro e w1 ⟨rfl, rfl⟩
      go_wp2
      go_ret
      exact ⟨by rw [HE.out]; rfl, by rw [HF.out]; exact ⟨v, H1.out, H2.out, H3.out⟩, Keep.refl _ _⟩
    · have d1 : decide (n < 0) = false := decide_eq_false h0
      have d2 : decide (16777216 < n) = true := decide_eq_true (by omega)
      clear hn
      go_enter Try.func11, Try.ntmps11
      go_wp2_with fail
      refine P.out.mono ?_
      rintro e w1 ⟨rfl, rfl⟩
      go_wp2
      go_ret
      exact ⟨by rw [HE.out]; rfl, by rw [HF.out]; exact ⟨v, H1.out, H2.out, H3.out⟩, Keep.refl _ _⟩
  · have HE := Lib.hid (show roomE n = 0 from if_neg hn)
    have HF := Lib.hid (show roomN n ro = n from if_neg hn)
    have d1 : decide (n < 0) = false := decide_eq_false (by omega)
    have d2 : decide (16777216 < n) = false := decide_eq_false (by omega)
    clear hn
    go_enter Try.func11, Try.ntmps11
    go_wp2_with fail
    refine P.out.mono ?_
    rintro e w1 ⟨rfl, rfl⟩
    go_wp2
    go_ret
    have K := Keep.set (X := fun k => k = p) (Keep.refl _ w) (p := ⟨p, 3, none⟩) (.inl rfl) (.int .i64 n)
    exact ⟨by rw [HE.out]; rfl, by rw [HF.out]; exact ⟨v, H1.out.set 3 _, H2.out.keep K (fun g hg e => H3.out (by rw [hg, e])), H3.out⟩, K.mono fun k e => .inl e⟩
end Go.Proofs.Ytfeljjbelnlojaa
