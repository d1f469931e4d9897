import Derived.Test.YtbjbjgfjaopibaaDoorRows
import Derived.Test.YtbjbjgfjaopibaaDoorPu2
import Derived.Test.YtbjbjgfjaopibaaDoorPu3
import Derived.BigQuiet
import Derived.StillTailTactics
section
/- The walks of layer 15: the tape's methods. -/
namespace Go.Proofs.YtbjbjgfjaopibaaDoor
open Go Go.RowKit
set_option linter.unusedSimpArgs false
set_option maxRecDepth 100000

theorem tnobody_nil (w : World) : Calls Tryd.prog 43 #[.pointer none] w fun e w' => e = .returned (.bool true) ∧ w = w' := by
  go_enter Tryd.func43, Tryd.ntmps43
  go_wp2
  go_ret
  exact ⟨rfl, rfl⟩
theorem tnobody (p : Nat) (b : Bool) (w : World) (h : w.cell? ⟨p, 0, none⟩ = some (.bool b)) : Calls Tryd.prog 43 #[.pointer (some ⟨p, 0, none⟩)] w fun e w' => e = .returned (.bool (!b)) ∧ w = w' := by
  go_enter Tryd.func43, Tryd.ntmps43
  go_wp2
  go_ret
  exact ⟨rfl, rfl⟩
/-- a change taken off the fuse -/
def burn (fu : Int) : Int := if 0 < fu then fu - 1 else fu
def burnE (fu : Int) : Int := if fu = 0 then 150 else 0
theorem tchange (p : Nat) (m v s r : Value) (fu : Int) (w : World) (hb : Blk w p #[m, v, s, r, .int .i64 fu] 41) (h0 : -1 ≤ fu) (h1 : fu ≤ 9223372036854775807) :
    Calls Tryd.prog 55 #[.pointer (some ⟨p, 0, none⟩)] w fun e w' => e = .returned (.int .i64 (burnE fu)) ∧ Blk w' p #[m, v, s, r, .int .i64 (burn fu)] 41 ∧ Keep (fun k => k = p) w w' := by
  have c := hb.cell 4
  have f := hb.free 4
  rw [show (#[m, v, s, r, Value.int .i64 fu] : Array Value)[4]? = some (.int .i64 fu) from rfl] at c
  have hB := Lib.hid hb
  clear hb
  by_cases hz : fu = 0
  · subst hz
    go_enter Tryd.func55, Tryd.ntmps55
    go_wp2
    go_ret
    exact ⟨rfl, hB.out, Keep.refl _ _⟩
  · have z1 : (fu == 0) = false := by simpa using hz
    have HE := Lib.hid (show burnE fu = 0 from if_neg hz)
    by_cases hp : 0 < fu
    · have HB := Lib.hid (show burn fu = fu - 1 from if_pos hp)
      go_enter Tryd.func55, Tryd.ntmps55
      go_wp2
      go_ret
      exact ⟨by rw [HE.out]; rfl, by rw [HB.out]; exact hB.out.set 4 _, Keep.set (X := fun k => k = p) (Keep.refl _ _) (.inl rfl) _⟩
    · have HB := Lib.hid (show burn fu = fu from if_neg hp)
      go_enter Tryd.func55, Tryd.ntmps55
      go_wp2
      go_ret
      exact ⟨by rw [HE.out]; rfl, by rw [HB.out]; exact hB.out, Keep.refl _ _⟩
theorem tkeep (p : Nat) (m s r f : Value) (q : Option Addr) (len cap n : Nat) (w : World) (hb : Blk w p #[m, .slice q len cap, s, r, f] 41) (hn : n ≤ cap) :
    Calls Tryd.prog 51 #[.pointer (some ⟨p, 0, none⟩), .int .i64 (n : Int)] w fun e w' => e = .returned (.tuple #[]) ∧ Blk w' p #[m, .slice q n n, .int .i64 (n : Int), r, f] 41 ∧ Keep (fun k => k = p) w w' := by
  have c := hb.cell
  have f' := hb.free
  have hB := Lib.hid hb
  clear hb
  go_enter Tryd.func51, Tryd.ntmps51
  go_wp2
  go_end0
  exact ⟨rfl, (hB.out.set 1 _).set 2 _, Keep.set (X := fun k => k = p) (Keep.set (X := fun k => k = p) (Keep.refl _ _) (.inl rfl) _) (.inl rfl) _⟩
/-- a tape that a call made, in memory: its bytes, how many are synced, its room, its fuse; o: the block of its bytes -/
def TapeAt (w : World) (p : Nat) (xs : List Int) (sy ro fu : Int) (o : Option Nat) : Prop :=
  ∃ v, Blk w p #[.bool true, v, .int .i64 sy, .int .i64 ro, .int .i64 fu] 41 ∧ Row w 5 v xs o ∧ o ≠ some p
/-- the blocks of a tape -/
def foot (p : Nat) (o : Option Nat) : Nat → Prop := fun k => k = p ∨ o = some k
theorem TapeAt.keep {X : Nat → Prop} {w w' : World} {p : Nat} {xs : List Int} {sy ro fu : Int} {o : Option Nat} (h : TapeAt w p xs sy ro fu o) (hk : Keep X w w') (hn : ∀ k, foot p o k → ¬ X k) : TapeAt w' p xs sy ro fu o := by
  obtain ⟨v, h1, h2, h3⟩ := h
  exact ⟨v, hk.blk h1 (hn p (.inl rfl)), h2.keep hk (fun g hg => hn g (.inr hg)), h3⟩
theorem TapeAt.lt {w : World} {p : Nat} {xs : List Int} {sy ro fu : Int} {o : Option Nat} (h : TapeAt w p xs sy ro fu o) : ∀ k, foot p o k → k < w.heap.size := by
  obtain ⟨v, h1, h2, h3⟩ := h
  rintro k (rfl | hk)
  · exact h1.lt
  · exact h2.lt k hk
theorem u8info : (Tryd.prog.info? 5).map (fun i => (i.zero, i.size, i.bytes)) = some (some (.int .u8 0), 1, 1) := by kernel_rfl

theorem tsynced (p : Nat) (xs : List Int) (sy ro fu : Int) (o : Option Nat) (w : World) (h : TapeAt w p xs sy ro fu o) :
    Calls Tryd.prog 22 #[.pointer (some ⟨p, 0, none⟩)] w fun e w' => e = .returned (.int .i64 sy) ∧ w = w' := by
  obtain ⟨v, h1, h2, h3⟩ := h
  have c := h1.cell
  have P := Lib.hid (tnobody p true w (h1.cell 0))
  go_enter Tryd.func22, Tryd.ntmps22
  go_wp2_with fail
  refine P.out.mono ?_
  rintro e w1 ⟨rfl, rfl⟩
  go_wp2
  go_ret
  exact ⟨rfl, rfl⟩
/-- Bytes: a copy of all, in memory of the call's own -/
theorem tbytes (p : Nat) (xs : List Int) (sy ro fu : Int) (o : Option Nat) (w : World) (h : TapeAt w p xs sy ro fu o) (hl : xs.length ≤ 140737488355328) :
    Calls Tryd.prog 17 #[.pointer (some ⟨p, 0, none⟩)] w fun e w' => ∃ q c o', e = .returned (.slice q xs.length c) ∧ Row w' 5 (.slice q xs.length c) xs o' ∧ (∀ g, o' = some g → w.heap.size ≤ g) ∧ Below w.heap.size w w' := by
  obtain ⟨v, h1, h2, h3⟩ := h
  have c := h1.cell
  have P := Lib.hid (tnobody p true w (h1.cell 0))
  obtain ⟨q, cc, rfl, hb, hle, hm, hq⟩ := h2.form
  rcases hq with ⟨rfl, rfl, rfl, rfl⟩ | ⟨g, rfl, rfl, hg⟩
  · have Q := Lib.hid (Tryd.bytes_Clone_nil 0 0 w)
    go_enter Tryd.func17, Tryd.ntmps17
    go_wp2_with fail
    refine P.out.mono ?_
    rintro e w1 ⟨rfl, rfl⟩
    go_wp2_with fail
    refine Q.out.mono ?_
    rintro e w1 ⟨rfl, rfl⟩
    go_wp2
    go_ret
    exact ⟨none, 0, none, rfl, Row.nil _ _, fun g hg => by (cases hg), Below.refl _ _⟩
  · have Q := Lib.hid (Tryd.bytes_Clone_at ⟨g, 0, none⟩ xs.length cc xs w rfl hl (fun i hi => by
      obtain ⟨b, o2, e1, hc⟩ := hb.at (by omega)
      simp at e1; obtain ⟨rfl, rfl⟩ := e1
      rw [Addr.add_lit]; exact hc i hi))
    go_enter Tryd.func17, Tryd.ntmps17
    go_wp2_with fail
    refine P.out.mono ?_
    rintro e w1 ⟨rfl, rfl⟩
    go_wp2_with fail
    refine Q.out.mono ?_
    rintro e w1 ⟨v', rfl, hown, hne, hbel⟩
    obtain ⟨o', r1, r2, r3⟩ := Row.of_owns hown
    obtain ⟨q', c', rfl, _⟩ := r1.form
    go_wp2
    go_ret
    exact ⟨q', c', o', rfl, r1, fun g hg => (r2 g hg).1, hbel⟩
/-- the answers of Fuse and Room, and what is there behind them -/
def fuseE (n : Int) : Int := if n < 0 then 1 else 0
def fuseN (n fu : Int) : Int := if n < 0 then fu else n
def roomE (n : Int) : Int := if n < 0 ∨ 16777216 < n then 1 else 0
def roomN (n ro : Int) : Int := if n < 0 ∨ 16777216 < n then ro else n
theorem tfuse (p : Nat) (xs : List Int) (sy ro fu n : Int) (o : Option Nat) (w : World) (h : TapeAt w p xs sy ro fu o) :
    Calls Tryd.prog 23 #[.pointer (some ⟨p, 0, none⟩), .int .i64 n] w fun e w' => e = .returned (.int .i64 (fuseE n)) ∧ TapeAt w' p xs sy ro (fuseN n fu) o ∧ Keep (foot p o) w w' := by
  obtain ⟨v, h1, h2, h3⟩ := h
  have c := h1.cell
  have f := h1.free
  have P := Lib.hid (tnobody p true w (h1.cell 0))
  have H1 := Lib.hid h1
  have H2 := Lib.hid h2
  have H3 := Lib.hid h3
  clear h1 h2 h3
  by_cases hn : n < 0
  · have HE := Lib.hid (show fuseE n = 1 from if_pos hn)
    have HF := Lib.hid (show fuseN n fu = fu from if_pos hn)
    go_enter Tryd.func23, Tryd.ntmps23
    go_wp2_with fail
    refine P.out.mono ?_
    rintro e w1 ⟨rfl, rfl⟩
    go_wp2
    go_ret
    exact ⟨by rw [HE.out]; rfl, by rw [HF.out]; exact ⟨v, H1.out, H2.out, H3.out⟩, Keep.refl _ _⟩
  · have HE := Lib.hid (show fuseE n = 0 from if_neg hn)
    have HF := Lib.hid (show fuseN n fu = n from if_neg hn)
    go_enter Tryd.func23, Tryd.ntmps23
    go_wp2_with fail
    refine P.out.mono ?_
    rintro e w1 ⟨rfl, rfl⟩
    go_wp2
    go_ret
    have K := Keep.set (X := fun k => k = p) (Keep.refl _ w) (p := ⟨p, 4, none⟩) (.inl rfl) (.int .i64 n)
    exact ⟨by rw [HE.out]; rfl, by rw [HF.out]; exact ⟨v, H1.out.set 4 _, H2.out.keep K (fun g hg e => H3.out (by rw [hg, e])), H3.out⟩, K.mono fun k e => .inl e⟩
theorem troom (p : Nat) (xs : List Int) (sy ro fu n : Int) (o : Option Nat) (w : World) (h : TapeAt w p xs sy ro fu o) :
    Calls Tryd.prog 16 #[.pointer (some ⟨p, 0, none⟩), .int .i64 n] w fun e w' => e = .returned (.int .i64 (roomE n)) ∧ TapeAt w' p xs sy (roomN n ro) fu o ∧ Keep (foot p o) w w' := by
  obtain ⟨v, h1, h2, h3⟩ := h
  have c := h1.cell
  have f := h1.free
  have P := Lib.hid (tnobody p true w (h1.cell 0))
  have H1 := Lib.hid h1
  have H2 := Lib.hid h2
  have H3 := Lib.hid h3
  clear h1 h2 h3
  by_cases hn : n < 0 ∨ 16777216 < n
  · have HE := Lib.hid (show roomE n = 1 from if_pos hn)
    have HF := Lib.hid (show roomN n ro = ro from if_pos hn)
    by_cases h0 : n < 0
    · have d1 : decide (n < 0) = true := decide_eq_true h0
      clear hn
      go_enter Tryd.func16, Tryd.ntmps16
      go_wp2_with fail
      refine P.out.mono ?_
      rintro e w1 ⟨rfl, rfl⟩
      go_wp2
      go_ret
      exact ⟨by rw [HE.out]; rfl, by rw [HF.out]; exact ⟨v, H1.out, H2.out, H3.out⟩, Keep.refl _ _⟩
    · have d1 : decide (n < 0) = false := decide_eq_false h0
      have d2 : decide (16777216 < n) = true := decide_eq_true (by omega)
      clear hn
      go_enter Tryd.func16, Tryd.ntmps16
      go_wp2_with fail
      refine P.out.mono ?_
      rintro e w1 ⟨rfl, rfl⟩
      go_wp2
      go_ret
      exact ⟨by rw [HE.out]; rfl, by rw [HF.out]; exact ⟨v, H1.out, H2.out, H3.out⟩, Keep.refl _ _⟩
  · have HE := Lib.hid (show roomE n = 0 from if_neg hn)
    have HF := Lib.hid (show roomN n ro = n from if_neg hn)
    have d1 : decide (n < 0) = false := decide_eq_false (by omega)
    have d2 : decide (16777216 < n) = false := decide_eq_false (by omega)
    clear hn
    go_enter Tryd.func16, Tryd.ntmps16
    go_wp2_with fail
    refine P.out.mono ?_
    rintro e w1 ⟨rfl, rfl⟩
    go_wp2
    go_ret
    have K := Keep.set (X := fun k => k = p) (Keep.refl _ w) (p := ⟨p, 3, none⟩) (.inl rfl) (.int .i64 n)
    exact ⟨by rw [HE.out]; rfl, by rw [HF.out]; exact ⟨v, H1.out.set 3 _, H2.out.keep K (fun g hg e => H3.out (by rw [hg, e])), H3.out⟩, K.mono fun k e => .inl e⟩
end Go.Proofs.YtbjbjgfjaopibaaDoor
end

section
/- The walks of layer 15: Sync, Append, Cut, Crash. -/
namespace Go.Proofs.YtbjbjgfjaopibaaDoor
open Go Go.RowKit
set_option linter.unusedSimpArgs false
set_option maxRecDepth 100000

def syncN (xs : List Int) (sy fu : Int) : Int := if fu = 0 then sy else xs.length
theorem tsync (p : Nat) (xs : List Int) (sy ro fu : Int) (o : Option Nat) (w : World) (h : TapeAt w p xs sy ro fu o) (hf0 : -1 ≤ fu) (hf1 : fu ≤ 9223372036854775807) :
    Calls Tryd.prog 33 #[.pointer (some ⟨p, 0, none⟩)] w fun e w' => e = .returned (.int .i64 (burnE fu)) ∧ TapeAt w' p xs (syncN xs sy fu) ro (burn fu) o ∧ Keep (foot p o) w w' := by
  obtain ⟨v, h1, h2, h3⟩ := h
  have P := Lib.hid (tnobody p true w (h1.cell 0))
  have Q := Lib.hid (tchange p (.bool true) v (.int .i64 sy) (.int .i64 ro) fu w h1 hf0 hf1)
  have H2 := Lib.hid h2
  have H3 := Lib.hid h3
  have H1 := Lib.hid h1
  obtain ⟨q, c, rfl, hb, hle, hm, hq⟩ := h2.form
  clear h1 h2 h3
  by_cases hz : fu = 0
  · subst hz
    have HN := Lib.hid (show syncN xs sy 0 = sy from rfl)
    go_enter Tryd.func33, Tryd.ntmps33
    go_wp2_with fail
    refine P.out.mono ?_
    rintro e w1 ⟨rfl, rfl⟩
    go_wp2_with fail
    refine Q.out.mono ?_
    rintro e w1 ⟨rfl, b1, k1⟩
    have R1 := H2.out.keep k1 (fun g hg e => H3.out (by rw [hg, e]))
    have B1 := Lib.hid b1
    have K1 := Lib.hid k1
    have r1 := Lib.hid R1
    go_wp2
    go_ret
    exact ⟨rfl, by rw [HN.out]; exact ⟨_, B1.out, r1.out, H3.out⟩, K1.out.mono fun k e => .inl e⟩
  · have z1 : (fu == 0) = false := by simpa using hz
    have HE := Lib.hid (show burnE fu = 0 from if_neg hz)
    have HN := Lib.hid (show syncN xs sy fu = xs.length from if_neg hz)
    go_enter Tryd.func33, Tryd.ntmps33
    go_wp2_with fail
    refine P.out.mono ?_
    rintro e w1 ⟨rfl, rfl⟩
    go_wp2_with fail
    refine Q.out.mono ?_
    rintro e w1 ⟨rfl, b1, k1⟩
    have R1 := H2.out.keep k1 (fun g hg e => H3.out (by rw [hg, e]))
    have B1 := Lib.hid b1
    have K1 := Lib.hid k1
    have r1 := Lib.hid R1
    rw [HE.out]
    have c1 := b1.cell
    have f1 := b1.free
    clear hz
    go_wp2
    go_ret
    have K := Keep.set (X := fun k => k = p) (Keep.refl _ w1) (p := ⟨p, 2, none⟩) (.inl rfl) (.int .i64 (xs.length : Int))
    exact ⟨by rw [HE.out]; rfl, by rw [HN.out]; exact ⟨_, B1.out.set 2 _, r1.out.keep K (fun g hg e => H3.out (by rw [hg, e])), H3.out⟩, (K1.out.trans K).mono fun k e => .inl e⟩

/-- Append's answer, and the bytes behind it -/
def appE (n m : Nat) (ro fu : Int) : Int := if fu = 0 then 150 else if ro - n < m then 4 else 0
def appB (xs ys : List Int) (ro fu : Int) : List Int := if fu = 0 then xs else if ro - xs.length < ys.length then xs else xs ++ ys
set_option maxHeartbeats 800000 in
theorem tappend (p : Nat) (xs ys : List Int) (sy ro fu : Int) (o : Option Nat) (q : Option Addr) (c : Nat) (w : World) (h : TapeAt w p xs sy ro fu o) (hy : Lib.BytesIn w q ys.length ys) (hqx : 0 < ys.length → ∀ a, q = some a → ¬ foot p o a.block)
    (hl : xs.length ≤ 16777216) (hyl : ys.length ≤ 9223372036854775807) (hr0 : 0 ≤ ro) (hr1 : ro ≤ 16777216) (hf0 : -1 ≤ fu) (hf1 : fu ≤ 9223372036854775807) :
    Calls Tryd.prog 30 #[.pointer (some ⟨p, 0, none⟩), .slice q ys.length c] w fun e w' => e = .returned (.int .i64 (appE xs.length ys.length ro fu)) ∧ (∃ o', TapeAt w' p (appB xs ys ro fu) sy ro (burn fu) o' ∧ (o' = o ∨ ∃ g, o' = some g ∧ w.heap.size ≤ g)) ∧ Keep (foot p o) w w' := by
  obtain ⟨v, h1, h2, h3⟩ := h
  have P := Lib.hid (tnobody p true w (h1.cell 0))
  have Q := Lib.hid (tchange p (.bool true) v (.int .i64 sy) (.int .i64 ro) fu w h1 hf0 hf1)
  have H2 := Lib.hid h2
  have H3 := Lib.hid h3
  have H1 := Lib.hid h1
  have HY := Lib.hid hy
  have HQ := Lib.hid hqx
  clear hy hqx h1 h2 h3
  by_cases hz : fu = 0
  · subst hz
    have HN := Lib.hid (show appB xs ys ro 0 = xs from rfl)
    have HE := Lib.hid (show appE xs.length ys.length ro 0 = 150 from rfl)
    go_enter Tryd.func30, Tryd.ntmps30
    go_wp2_with fail
    refine P.out.mono ?_
    rintro e w1 ⟨rfl, rfl⟩
    go_wp2_with fail
    refine Q.out.mono ?_
    rintro e w1 ⟨rfl, b1, k1⟩
    have R1 := H2.out.keep k1 (fun g hg e => H3.out (by rw [hg, e]))
    have B1 := Lib.hid b1
    have K1 := Lib.hid k1
    have r1 := Lib.hid R1
    go_wp2
    go_ret
    exact ⟨by rw [HE.out]; rfl, ⟨o, by rw [HN.out]; exact ⟨_, B1.out, r1.out, H3.out⟩, .inl rfl⟩, K1.out.mono fun k e => .inl e⟩
  · have z1 : (fu == 0) = false := by simpa using hz
    have HB := Lib.hid (show burnE fu = 0 from if_neg hz)
    by_cases hfull : ro - xs.length < ys.length
    · have HN := Lib.hid (show appB xs ys ro fu = xs from by unfold appB; rw [if_neg hz, if_pos hfull])
      have HE := Lib.hid (show appE xs.length ys.length ro fu = 4 from by unfold appE; rw [if_neg hz, if_pos hfull])
      go_enter Tryd.func30, Tryd.ntmps30
      go_wp2_with fail
      refine P.out.mono ?_
      rintro e w1 ⟨rfl, rfl⟩
      go_wp2_with fail
      refine Q.out.mono ?_
      rintro e w1 ⟨rfl, b1, k1⟩
      have R1 := H2.out.keep k1 (fun g hg e => H3.out (by rw [hg, e]))
      have B1 := Lib.hid b1
      have K1 := Lib.hid k1
      have r1 := Lib.hid R1
      rw [HB.out]
      obtain ⟨q2, c2, rfl, hb2, hle2, hm2, hq2⟩ := R1.form
      have c1 := b1.cell
      have f1 := b1.free
      clear hz b1 k1 R1 hb2 hq2
      go_wp2
      go_region
      go_wp2
      go_ret
      exact ⟨by rw [HE.out]; rfl, ⟨o, by rw [HN.out]; exact ⟨_, B1.out.drew, r1.out.keep (Keep.refl _ _).drew (fun _ _ h => h) , H3.out⟩, .inl rfl⟩, (K1.out.mono fun k e => .inl e).drew⟩
    · have HN := Lib.hid (show appB xs ys ro fu = xs ++ ys from by unfold appB; rw [if_neg hz, if_neg hfull])
      have HE := Lib.hid (show appE xs.length ys.length ro fu = 0 from by unfold appE; rw [if_neg hz, if_neg hfull])
      go_enter Tryd.func30, Tryd.ntmps30
      go_wp2_with fail
      refine P.out.mono ?_
      rintro e w1 ⟨rfl, rfl⟩
      go_wp2_with fail
      refine Q.out.mono ?_
      rintro e w1 ⟨rfl, b1, k1⟩
      have R1 := H2.out.keep k1 (fun g hg e => H3.out (by rw [hg, e]))
      have B1 := Lib.hid b1
      have K1 := Lib.hid k1
      have r1 := Lib.hid R1
      rw [HB.out]
      obtain ⟨q2, c2, rfl, hb2, hle2, hm2, hq2⟩ := R1.form
      have c1 := b1.cell
      have f1 := b1.free
      clear hz b1 k1 R1 hb2 hq2
      go_wp2
      go_region

      obtain ⟨i0, hi, hz0, hz1, hz2⟩ := info_parts u8info
      obtain ⟨v', w3, o', hrun, hrow, ho, hk⟩ := row_append (P := Tryd.prog) 32 32 i0 (.int .u8 0) Tryd.underlying32 hi hz0 hz1 hz2 rfl (r1.out.keep (Keep.refl (fun _ => False) w1).drew (fun _ _ h => h)) (c := c) (bytes_keep HY.out K1.out.drew (fun h0 a ha e => HQ.out h0 a ha (.inl e))) (by omega)
      generalize xs ++ ys = zs at *
      obtain ⟨q3, c3', rfl, _⟩ := hrow.form
      have B3 := hk.blk B1.out.drew H3.out
      have c3 := B3.cell
      have f3 := B3.free
      have HR := Lib.hid hrow
      have HO := Lib.hid ho
      have HK := Lib.hid hk
      have H33 := Lib.hid B3
      clear hi hz0 hz1 hz2 hrow ho hk B3
      go_wp2_with (at_builtin; refine wpl_append rfl _ _ 32 rfl rfl rfl hrun ?_)
      go_ret
      have hop : o' ≠ some p := by
        rcases HO.out with h | ⟨g, h, hg⟩
        · rw [h]; exact H3.out
        · rw [h]; intro e; cases e; have := B1.out.lt; simp at hg; omega
      have K := Keep.set (X := fun k => k = p) (Keep.refl _ w3) (p := ⟨p, 1, none⟩) (.inl rfl) (.slice q3 zs.length c3')
      refine ⟨by rw [HE.out]; rfl, ⟨o', by rw [HN.out]; exact ⟨_, H33.out.set 1 _, HR.out.keep K (fun g hg e => hop (by rw [hg, e])), hop⟩, ?_⟩, ?_⟩
      · rcases HO.out with h | ⟨g, h, hg⟩
        · exact .inl h
        · exact .inr ⟨g, h, Nat.le_trans K1.out.size (by simpa using hg)⟩
      · exact (((K1.out.mono (Y := foot p o) fun k e => .inl e).drew).trans (HK.out.mono fun k e => .inr e)).trans (K.mono fun k e => .inl e)

def cutE (n len fu : Int) : Int := if n < 0 ∨ len < n then 1 else burnE fu
def cutB (xs : List Int) (n fu : Int) : List Int := if n < 0 ∨ (xs.length : Int) < n ∨ fu = 0 then xs else xs.take n.toNat
def cutS (xs : List Int) (sy n fu : Int) : Int := if n < 0 ∨ (xs.length : Int) < n ∨ fu = 0 then sy else n
def cutF (len n fu : Int) : Int := if n < 0 ∨ len < n then fu else burn fu
set_option maxHeartbeats 800000 in
theorem tcut (p : Nat) (xs : List Int) (sy ro fu n : Int) (o : Option Nat) (w : World) (h : TapeAt w p xs sy ro fu o) (hl : xs.length ≤ 16777216) (hf0 : -1 ≤ fu) (hf1 : fu ≤ 9223372036854775807) :
    Calls Tryd.prog 42 #[.pointer (some ⟨p, 0, none⟩), .int .i64 n] w fun e w' => e = .returned (.int .i64 (cutE n xs.length fu)) ∧ TapeAt w' p (cutB xs n fu) (cutS xs sy n fu) ro (cutF xs.length n fu) o ∧ Keep (foot p o) w w' := by
  obtain ⟨v, h1, h2, h3⟩ := h
  have P := Lib.hid (tnobody p true w (h1.cell 0))
  have Q := Lib.hid (tchange p (.bool true) v (.int .i64 sy) (.int .i64 ro) fu w h1 hf0 hf1)
  have H2 := Lib.hid h2
  have H3 := Lib.hid h3
  have H1 := Lib.hid h1
  obtain ⟨q2, c2, rfl, hb2, hle2, hm2, hq2⟩ := h2.form
  have c1 := h1.cell
  clear h1 h2 h3 hb2 hq2
  by_cases hn : n < 0 ∨ (xs.length : Int) < n
  · have hn3 : n < 0 ∨ (xs.length : Int) < n ∨ fu = 0 := by omega
    have HE := Lib.hid (show cutE n xs.length fu = 1 from if_pos hn)
    have HBB := Lib.hid (show cutB xs n fu = xs from if_pos hn3)
    have HS := Lib.hid (show cutS xs sy n fu = sy from if_pos hn3)
    have HF := Lib.hid (show cutF xs.length n fu = fu from if_pos hn)
    by_cases hn0 : n < 0
    · have d1 : decide (n < 0) = true := decide_eq_true hn0
      clear hn hn3
      go_enter Tryd.func42, Tryd.ntmps42
      go_wp2_with fail
      refine P.out.mono ?_
      rintro e w1 ⟨rfl, rfl⟩
      go_wp2
      go_ret
      exact ⟨by rw [HE.out]; rfl, by rw [HBB.out, HS.out, HF.out]; exact ⟨_, H1.out, H2.out, H3.out⟩, Keep.refl _ _⟩
    · have d1 : decide (n < 0) = false := decide_eq_false hn0
      have d2 : decide ((xs.length : Int) < n) = true := decide_eq_true (by omega)
      clear hn hn3
      go_enter Tryd.func42, Tryd.ntmps42
      go_wp2_with fail
      refine P.out.mono ?_
      rintro e w1 ⟨rfl, rfl⟩
      go_wp2
      go_ret
      exact ⟨by rw [HE.out]; rfl, by rw [HBB.out, HS.out, HF.out]; exact ⟨_, H1.out, H2.out, H3.out⟩, Keep.refl _ _⟩
  · have d1 : decide (n < 0) = false := decide_eq_false (by omega)
    have d2 : decide ((xs.length : Int) < n) = false := decide_eq_false (by omega)
    have HE := Lib.hid (show cutE n xs.length fu = burnE fu from if_neg hn)
    have HF := Lib.hid (show cutF xs.length n fu = burn fu from if_neg hn)
    have hnn : n.toNat ≤ xs.length := by omega
    have hN : n = (n.toNat : Int) := by omega
    generalize n.toNat = N at *
    subst hN
    by_cases hz : fu = 0
    · subst hz
      have HBB := Lib.hid (show cutB xs N 0 = xs from if_pos (.inr (.inr rfl)))
      have HS := Lib.hid (show cutS xs sy N 0 = sy from if_pos (.inr (.inr rfl)))
      clear hn
      go_enter Tryd.func42, Tryd.ntmps42
      go_wp2_with fail
      refine P.out.mono ?_
      rintro e w1 ⟨rfl, rfl⟩
      go_wp2_with fail
      refine Q.out.mono ?_
      rintro e w1 ⟨rfl, b1, k1⟩
      have R1 := H2.out.keep k1 (fun g hg e => H3.out (by rw [hg, e]))
      have B1 := Lib.hid b1
      have K1 := Lib.hid k1
      have r1 := Lib.hid R1
      clear b1 k1 R1
      go_wp2
      go_ret
      exact ⟨by rw [HE.out]; rfl, by rw [HBB.out, HS.out, HF.out]; exact ⟨_, B1.out, r1.out, H3.out⟩, K1.out.mono fun k e => .inl e⟩
    · have z1 : (fu == 0) = false := by simpa using hz
      have HB := Lib.hid (show burnE fu = 0 from if_neg hz)
      have HBB := Lib.hid (show cutB xs N fu = xs.take N from (if_neg (by omega)).trans (by rw [Int.toNat_natCast]))
      have HS := Lib.hid (show cutS xs sy N fu = N from if_neg (by omega))
      clear hn
      go_enter Tryd.func42, Tryd.ntmps42
      go_wp2_with fail
      refine P.out.mono ?_
      rintro e w1 ⟨rfl, rfl⟩
      go_wp2_with fail
      refine Q.out.mono ?_
      rintro e w1 ⟨rfl, b1, k1⟩
      have R1 := H2.out.keep k1 (fun g hg e => H3.out (by rw [hg, e]))
      have B1 := Lib.hid b1
      have K1 := Lib.hid k1
      have r1 := Lib.hid R1
      rw [HB.out]
      have PK := Lib.hid (tkeep p (.bool true) (.int .i64 sy) (.int .i64 ro) (.int .i64 (burn fu)) q2 xs.length c2 N w1 b1 (by omega))
      clear hz b1 k1 R1
      go_wp2_with fail
      refine PK.out.mono ?_
      rintro e w2 ⟨rfl, b2, k2⟩
      have B2 := Lib.hid b2
      have K2 := Lib.hid k2
      clear b2 k2
      go_wp2
      go_ret
      exact ⟨by rw [HE.out, HB.out]; rfl, by rw [HBB.out, HS.out, HF.out]; exact ⟨_, B2.out, (r1.out.keep K2.out (fun g hg e => H3.out (by rw [hg, e]))).cut hnn, H3.out⟩, (K1.out.trans K2.out).mono fun k e => .inl e⟩
end Go.Proofs.YtbjbjgfjaopibaaDoor
end

section
/- The walks of layer 15: Crash, Copy, Of, New. -/
namespace Go.Proofs.YtbjbjgfjaopibaaDoor
open Go Go.RowKit
set_option linter.unusedSimpArgs false
set_option maxRecDepth 100000

/-- how many bytes a crash leaves -/
def crashN (len : Nat) (sy n : Int) : Nat := (sy + max 0 (min n (len - sy))).toNat
theorem crashN_le (len : Nat) (sy n : Int) (h0 : 0 ≤ sy) (h1 : sy ≤ len) : crashN len sy n ≤ len ∧ sy ≤ crashN len sy n ∧ sy + max 0 (min n (len - sy)) = (crashN len sy n : Int) := by unfold crashN; omega
set_option maxHeartbeats 800000 in
theorem tcrash (p : Nat) (xs : List Int) (sy ro fu n : Int) (o : Option Nat) (w : World) (h : TapeAt w p xs sy ro fu o) (hl : xs.length ≤ 16777216) (hs0 : 0 ≤ sy) (hs1 : sy ≤ xs.length) :
    Calls Tryd.prog 26 #[.pointer (some ⟨p, 0, none⟩), .int .i64 n] w fun e w' => e = .returned (.int .i64 0) ∧ TapeAt w' p (xs.take (crashN xs.length sy n)) (crashN xs.length sy n) ro (-1) o ∧ Keep (foot p o) w w' := by
  obtain ⟨v, h1, h2, h3⟩ := h
  have P := Lib.hid (tnobody p true w (h1.cell 0))
  have H2 := Lib.hid h2
  have H3 := Lib.hid h3
  have H1 := Lib.hid h1
  obtain ⟨q2, c2, rfl, hb2, hle2, hm2, hq2⟩ := h2.form
  obtain ⟨k1, k2, k3⟩ := crashN_le xs.length sy n hs0 hs1
  have PK := Lib.hid (tkeep p (.bool true) (.int .i64 sy) (.int .i64 ro) (.int .i64 fu) q2 xs.length c2 (crashN xs.length sy n) w.drew h1.drew (by omega))
  generalize crashN xs.length sy n = N at *
  have c1 := h1.cell
  have i1 := IntWalk.i64_in ((xs.length : Int) - sy) (by omega)
  have i2 : IntKind.i64.wrap (sy + max 0 (min n ((xs.length : Int) - sy))) = (N : Int) := by rw [k3]; exact IntWalk.i64_in _ (by omega)
  clear h1 h2 h3 hb2 hq2
  go_enter Tryd.func26, Tryd.ntmps26
  go_wp2_with fail
  refine P.out.mono ?_
  rintro e w1 ⟨rfl, rfl⟩
  go_wp2_with fail
  go_still_tail 19, (by kernel_rfl)
  change wpList _ _ _ _ _ w.drew
  go_wp2_with fail
  refine PK.out.mono ?_
  rintro e w2 ⟨rfl, b2, k2⟩
  have R2 := H2.out.keep (((Keep.refl (fun k => k = p) w).drew).trans k2) (fun g hg e => H3.out (by rw [hg, e]))
  have K2 := Lib.hid k2
  have B2 := Lib.hid b2
  have RR := Lib.hid R2
  have c2' := b2.cell
  have f2 := b2.free
  clear k2 b2 R2 c1 i1 i2
  go_wp2
  go_ret
  have K := Keep.set (X := fun k => k = p) (Keep.refl _ w2) (p := ⟨p, 4, none⟩) (.inl rfl) (.int .i64 (-1))
  exact ⟨rfl, ⟨_, B2.out.set 4 _, (RR.out.keep K (fun g hg e => H3.out (by rw [hg, e]))).cut k1, H3.out⟩, ((((Keep.refl (fun k => k = p) w).drew).trans K2.out).trans K).mono fun k e => .inl e⟩
theorem clone_row (v : Value) (xs : List Int) (o : Option Nat) (w : World) (h : Row w 5 v xs o) (hl : xs.length ≤ 140737488355328) :
    Calls Tryd.prog 28 #[v] w fun e w' => ∃ q c o', e = .returned (.slice q xs.length c) ∧ Row w' 5 (.slice q xs.length c) xs o' ∧ (∀ g, o' = some g → w.heap.size ≤ g) ∧ Below w.heap.size w w' := by
  obtain ⟨q, cc, rfl, hb, hle, hm, hq⟩ := h.form
  rcases hq with ⟨rfl, rfl, rfl, rfl⟩ | ⟨g, rfl, rfl, hg⟩
  · refine (Tryd.bytes_Clone_nil 0 0 w).mono ?_
    rintro e w1 ⟨rfl, rfl⟩
    exact ⟨none, 0, none, rfl, Row.nil _ _, fun g hg => by (cases hg), Below.refl _ _⟩
  · refine (Tryd.bytes_Clone_at ⟨g, 0, none⟩ xs.length cc xs w rfl hl (fun i hi => by
      obtain ⟨b, o2, e1, hc⟩ := hb.at (by omega)
      simp at e1; obtain ⟨rfl, rfl⟩ := e1
      rw [Addr.add_lit]; exact hc i hi)).mono ?_
    rintro e w1 ⟨v', rfl, hown, hne, hbel⟩
    obtain ⟨o', r1, r2, r3⟩ := Row.of_owns hown
    obtain ⟨q', c', rfl, _⟩ := r1.form
    exact ⟨q', c', o', rfl, r1, fun g hg => (r2 g hg).1, hbel⟩
/-- Clone of an argument's bytes -/
theorem clone_arg (q : Option Addr) (c : Nat) (xs : List Int) (w : World) (h : Lib.BytesIn w q xs.length xs) (hl : xs.length ≤ 140737488355328) :
    Calls Tryd.prog 28 #[.slice q xs.length c] w fun e w' => ∃ q c o', e = .returned (.slice q xs.length c) ∧ Row w' 5 (.slice q xs.length c) xs o' ∧ (∀ g, o' = some g → w.heap.size ≤ g) ∧ Below w.heap.size w w' := by
  cases q with
  | none =>
    have h0 : xs = [] := by
      apply Classical.byContradiction; intro hne
      obtain ⟨b, o, e, _⟩ := h.at (List.length_pos_iff.2 hne)
      cases e
    subst h0
    refine (Tryd.bytes_Clone_nil 0 c w).mono ?_
    rintro e w1 ⟨rfl, rfl⟩
    exact ⟨none, 0, none, rfl, Row.nil _ _, fun g hg => by (cases hg), Below.refl _ _⟩
  | some a =>
    refine (Tryd.bytes_Clone_at a xs.length c xs w rfl hl (fun i hi => by
      obtain ⟨b, o2, e1, hc⟩ := h.at (by omega)
      simp at e1; subst e1
      rw [Addr.add_lit]; exact hc i hi)).mono ?_
    rintro e w1 ⟨v', rfl, hown, hne, hbel⟩
    obtain ⟨o', r1, r2, r3⟩ := Row.of_owns hown
    obtain ⟨q', c', rfl, _⟩ := r1.form
    exact ⟨q', c', o', rfl, r1, fun g hg => (r2 g hg).1, hbel⟩
/-- Of's answer -/
def ofE (len : Nat) (ro : Int) : Int := if ro < 0 ∨ 16777216 < ro ∨ ro < len then 1 else 0
theorem tof_bad (q : Option Addr) (c n : Nat) (ro : Int) (w : World) (h : ro < 0 ∨ 16777216 < ro ∨ ro < n) :
    Calls Tryd.prog 21 #[.slice q n c, .int .i64 ro] w fun e w' => e = .returned (.tuple #[.pointer none, .int .i64 1]) ∧ w = w' := by
  by_cases h0 : ro < 0
  · have d1 : decide (ro < 0) = true := decide_eq_true h0
    clear h
    go_enter Tryd.func21, Tryd.ntmps21
    go_wp2
    go_ret2
    exact ⟨rfl, rfl⟩
  · have d1 : decide (ro < 0) = false := decide_eq_false h0
    by_cases h1 : 16777216 < ro
    · have d2 : decide (16777216 < ro) = true := decide_eq_true h1
      clear h
      go_enter Tryd.func21, Tryd.ntmps21
      go_wp2
      go_ret2
      exact ⟨rfl, rfl⟩
    · have d2 : decide (16777216 < ro) = false := decide_eq_false h1
      have d3 : decide (ro < (n : Int)) = true := decide_eq_true (by omega)
      clear h
      go_enter Tryd.func21, Tryd.ntmps21
      go_wp2
      go_ret2
      exact ⟨rfl, rfl⟩
theorem tof (q : Option Addr) (c : Nat) (xs : List Int) (ro : Int) (w : World) (hx : Lib.BytesIn w q xs.length xs) (h0 : 0 ≤ ro) (h1 : ro ≤ 16777216) (h2 : xs.length ≤ ro) :
    Calls Tryd.prog 21 #[.slice q xs.length c, .int .i64 ro] w fun e w' => ∃ p o, e = .returned (.tuple #[.pointer (some ⟨p, 0, none⟩), .int .i64 0]) ∧ TapeAt w' p xs xs.length ro (-1) o ∧ w.heap.size ≤ p ∧ (∀ g, o = some g → w.heap.size ≤ g) ∧ Below w.heap.size w w' := by
  have P := Lib.hid (clone_arg q c xs w hx (by omega))
  have d1 : decide (ro < 0) = false := decide_eq_false (by omega)
  have d2 : decide (16777216 < ro) = false := decide_eq_false (by omega)
  have d3 : decide (ro < (xs.length : Int)) = false := decide_eq_false (by omega)
  clear hx
  go_enter Tryd.func21, Tryd.ntmps21
  go_wp2_with fail
  refine P.out.mono ?_
  rintro e w1 ⟨q', c', o', rfl, hr, ho, hb⟩
  have HR := Lib.hid hr
  have HO := Lib.hid ho
  have HB := Lib.hid hb
  clear hr ho hb
  go_wp2
  go_ret2
  have hlt := HR.out.lt
  exact ⟨w1.heap.size, o', rfl, ⟨_, Blk.new _ _ _, HR.out.keep ((Keep.refl (fun _ => False) w1).alloc _) (fun _ _ h => h), fun e => by have := hlt _ e; omega⟩, HB.out.size, HO.out, HB.out.alloc HB.out.size _⟩
theorem tnew (ro : Int) (w : World) (h0 : 0 ≤ ro) (h1 : ro ≤ 16777216) :
    Calls Tryd.prog 14 #[.int .i64 ro] w fun e w' => ∃ p o, e = .returned (.tuple #[.pointer (some ⟨p, 0, none⟩), .int .i64 0]) ∧ TapeAt w' p [] 0 ro (-1) o ∧ w.heap.size ≤ p ∧ (∀ g, o = some g → w.heap.size ≤ g) ∧ Below w.heap.size w w' := by
  have P := Lib.hid (tof none 0 [] ro w (Lib.BytesIn.nil _ _ _) h0 h1 (by simpa using h0))
  go_enter Tryd.func14, Tryd.ntmps14
  go_wp2_with fail
  refine P.out.mono ?_
  rintro e w1 ⟨p, o, rfl, hr⟩
  have HR := Lib.hid hr
  clear hr
  go_wp2
  go_ret2
  exact ⟨p, o, rfl, HR.out⟩
set_option maxHeartbeats 800000 in
theorem tcopy (p : Nat) (xs : List Int) (sy ro fu : Int) (o : Option Nat) (w : World) (h : TapeAt w p xs sy ro fu o) (hl : xs.length ≤ 140737488355328) :
    Calls Tryd.prog 24 #[.pointer (some ⟨p, 0, none⟩)] w fun e w' => ∃ p' o', e = .returned (.pointer (some ⟨p', 0, none⟩)) ∧ TapeAt w' p' xs sy ro fu o' ∧ w.heap.size ≤ p' ∧ (∀ g, o' = some g → w.heap.size ≤ g) ∧ Below w.heap.size w w' := by
  obtain ⟨v, h1, h2, h3⟩ := h
  have P := Lib.hid (tnobody p true w (h1.cell 0))
  have H2 := Lib.hid h2
  have H3 := Lib.hid h3
  have H1 := Lib.hid h1
  have c1 := h1.cell
  have l1 := h1.lt
  obtain ⟨q2, c2, rfl, hb2, hle2, hm2, hq2⟩ := h2.form
  clear h1 h2 h3 hb2 hq2
  go_enter Tryd.func24, Tryd.ntmps24
  go_wp2_with fail
  refine P.out.mono ?_
  rintro e w1 ⟨rfl, rfl⟩
  go_upto_region 4 with fail
  have PC := Lib.hid (clone_row _ xs o _ (H2.out.keep ((Keep.refl (fun _ => False) w).alloc (.cells #[.bool true, .slice q2 xs.length c2, .int .i64 sy, .int .i64 ro, .int .i64 fu] 41)) (fun _ _ h => h)) hl)
  have BN := Lib.hid (Blk.new w #[.bool true, .slice q2 xs.length c2, .int .i64 sy, .int .i64 ro, .int .i64 fu] 41)
  have CN := BN.out.alloc
  clear CN
  go_wp2_with fail
  refine PC.out.mono ?_
  rintro e w2 ⟨q', c', o', rfl, hr, ho, hb⟩
  have b2 := BN.out.beyond hb
  have HR := Lib.hid hr
  have HO := Lib.hid ho
  have HB := Lib.hid hb
  have B2 := Lib.hid b2
  have c2' := b2.cell
  have f2 := b2.free
  clear hr ho hb b2 c1
  go_wp2
  go_ret
  have hop : o' ≠ some w.heap.size := fun e => by have h := HO.out _ e; rw [show ∀ o : Obj, (w.alloc o).heap.size = w.heap.size + 1 from fun o => by simp] at h; omega
  have K := Keep.set (X := fun k => k = w.heap.size) (Keep.refl _ w2) (p := ⟨w.heap.size, 1, none⟩) (.inl rfl) (.slice q' xs.length c')
  have hsz := HB.out.size
  refine ⟨w.heap.size, o', rfl, ⟨_, B2.out.set 1 _, HR.out.keep K (fun g hg e => hop (by rw [hg, e])), hop⟩, Nat.le_refl _, fun g hg => by have h := HO.out g hg; rw [show ∀ o : Obj, (w.alloc o).heap.size = w.heap.size + 1 from fun o => by simp] at h; omega, ?_⟩
  exact ((((Below.refl w.heap.size w).alloc (Nat.le_refl _) _).trans (HB.out.mono (by simp))).setCell (p := ⟨w.heap.size, 1, none⟩) (Nat.le_refl _) _)
end Go.Proofs.YtbjbjgfjaopibaaDoor
end
