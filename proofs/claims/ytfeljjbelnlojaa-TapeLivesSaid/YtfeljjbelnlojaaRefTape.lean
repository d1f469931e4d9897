/- The document's tape (layer 15): its methods, walked. -/
import Derived.Test.YtfeljjbelnlojaaTapeC
namespace Go.Proofs.Ytfeljjbelnlojaa
open Go Go.RowKit
set_option linter.unusedSimpArgs false

/-- the document's tape in memory -/
def RefAt (w : World) (r : Nat) (xs : List Int) (sy ro fu : Int) (o : Option Nat) : Prop :=
  ∃ v, Blk w r #[v, .int .i64 sy, .int .i64 ro, .int .i64 fu] 59 ∧ Row w 5 v xs o ∧ o ≠ some r
/-- []byte{} -/
theorem row_none (w : World) : Row (w.alloc (.cells #[] 5)) 5 (.slice (some ⟨w.heap.size, 0, none⟩) 0 0) [] (some w.heap.size) :=
  .inr ⟨w.heap.size, 0, #[], rfl, rfl, Blk.new _ _ _, Nat.le_refl _, Nat.le_refl _, Nat.zero_le _, rfl⟩
theorem rburn (r : Nat) (v s ro : Value) (fu : Int) (w : World) (hb : Blk w r #[v, s, ro, .int .i64 fu] 59) (h0 : -1 ≤ fu) (h1 : fu ≤ 9223372036854775807) :
    Calls Try.prog 34 #[.pointer (some ⟨r, 0, none⟩)] w fun e w' => e = .returned (.bool (fu != 0)) ∧ Blk w' r #[v, s, ro, .int .i64 (burn fu)] 59 ∧ Keep (fun k => k = r) w w' := by
  have c := hb.cell 3
  have f := hb.free 3
  rw [show (#[v, s, ro, Value.int .i64 fu] : Array Value)[3]? = some (.int .i64 fu) from rfl] at c
  have hB := Lib.hid hb
  clear hb
  by_cases hz : fu = 0
  · subst hz
    go_enter Try.func34, Try.ntmps34
    go_wp2
    go_ret
    exact ⟨rfl, hB.out, Keep.refl _ _⟩
  · have z1 : (fu == 0) = false := by simpa using hz
    have z2 : (fu != 0) = true := by simpa using hz
    rw [z2]
    by_cases hp : 0 < fu
    · have HB := Lib.hid (show burn fu = fu - 1 from if_pos hp)
      go_enter Try.func34, Try.ntmps34
      go_wp2
      go_ret
      exact ⟨rfl, by rw [HB.out]; exact hB.out.set 3 _, Keep.set (X := fun k => k = r) (Keep.refl _ _) (.inl rfl) _⟩
    · have HB := Lib.hid (show burn fu = fu from if_neg hp)
      go_enter Try.func34, Try.ntmps34
      go_wp2
      go_ret
      exact ⟨rfl, by rw [HB.out]; exact hB.out, Keep.refl _ _⟩
theorem rsync (r : Nat) (xs : List Int) (sy ro fu : Int) (o : Option Nat) (w : World) (h : RefAt w r xs sy ro fu o) (hf0 : -1 ≤ fu) (hf1 : fu ≤ 9223372036854775807) :
    Calls Try.prog 29 #[.pointer (some ⟨r, 0, none⟩)] w fun e w' => e = .returned (.int .i64 (burnE fu)) ∧ RefAt w' r xs (syncN xs sy fu) ro (burn fu) o ∧ Keep (foot r o) w w' := by
  obtain ⟨v, h1, h2, h3⟩ := h
  have P := Lib.hid (rburn r v (.int .i64 sy) (.int .i64 ro) fu w h1 hf0 hf1)
  have H2 := Lib.hid h2
  have H3 := Lib.hid h3
  clear h1 h2 h3
  by_cases hz : fu = 0
  · subst hz
    have HN := Lib.hid (show syncN xs sy 0 = sy from rfl)
    have HE := Lib.hid (show burnE 0 = 150 from rfl)
    go_enter Try.func29, Try.ntmps29
    go_wp2_with fail
    refine P.out.mono ?_
    rintro e w1 ⟨rfl, b1, k1⟩
    have HB := Lib.hid b1
    have HK := Lib.hid k1
    clear b1 k1
    go_wp2
    go_ret
    exact ⟨by rw [HE.out]; rfl, ⟨v, by rw [HN.out]; exact HB.out, H2.out.keep HK.out (fun g hg e => H3.out (by rw [hg, e])), H3.out⟩, HK.out.mono fun k e => .inl e⟩
  · have z1 : (fu != 0) = true := by simpa using hz
    have HN := Lib.hid (show syncN xs sy fu = xs.length from if_neg hz)
    have HE := Lib.hid (show burnE fu = 0 from if_neg hz)
    go_enter Try.func29, Try.ntmps29
    go_wp2_with fail
    refine P.out.mono ?_
    rintro e w1 ⟨rfl, b1, k1⟩
    rw [z1]
    have R1 := Lib.hid (H2.out.keep k1 (fun g hg e => H3.out (by rw [hg, e])))
    obtain ⟨q2, c2, rfl, _⟩ := R1.out.form
    have c1 := b1.cell
    have f1 := b1.free
    have HB := Lib.hid b1
    have HK := Lib.hid k1
    clear b1 k1
    go_wp2
    go_ret
    have K := Keep.set (X := fun k => k = r) (Keep.refl _ w1) (p := ⟨r, 1, none⟩) (.inl rfl) (.int .i64 (xs.length : Int))
    exact ⟨by rw [HE.out]; rfl, ⟨_, by rw [HN.out]; exact HB.out.set 1 _, R1.out.keep K (fun g hg e => H3.out (by rw [hg, e])), H3.out⟩, (HK.out.trans K).mono fun k e => .inl e⟩
theorem rfuse (r : Nat) (xs : List Int) (sy ro fu n : Int) (o : Option Nat) (w : World) (h : RefAt w r xs sy ro fu o) :
    Calls Try.prog 31 #[.pointer (some ⟨r, 0, none⟩), .int .i64 n] w fun e w' => e = .returned (.int .i64 (fuseE n)) ∧ RefAt w' r xs sy ro (fuseN n fu) o ∧ Keep (foot r o) w w' := by
  obtain ⟨v, h1, h2, h3⟩ := h
  have H2 := Lib.hid h2
  have H3 := Lib.hid h3
  have H1 := Lib.hid h1
  have c := h1.cell
  have f := h1.free
  clear h1 h2 h3
  by_cases hz : n < 0
  · have HN := Lib.hid (show fuseN n fu = fu from if_pos hz)
    have HE := Lib.hid (show fuseE n = 1 from if_pos hz)
    go_enter Try.func31, Try.ntmps31
    go_wp2
    go_ret
    exact ⟨by rw [HE.out]; rfl, ⟨v, by rw [HN.out]; exact H1.out, H2.out, H3.out⟩, Keep.refl _ _⟩
  · have HN := Lib.hid (show fuseN n fu = n from if_neg hz)
    have HE := Lib.hid (show fuseE n = 0 from if_neg hz)
    go_enter Try.func31, Try.ntmps31
    go_wp2
    go_ret
    have K := Keep.set (X := fun k => k = r) (Keep.refl _ w) (p := ⟨r, 3, none⟩) (.inl rfl) (.int .i64 n)
    exact ⟨by rw [HE.out]; rfl, ⟨v, by rw [HN.out]; exact H1.out.set 3 _, H2.out.keep K (fun g hg e => H3.out (by rw [hg, e])), H3.out⟩, K.mono fun k e => .inl e⟩
theorem rroom (r : Nat) (xs : List Int) (sy ro fu n : Int) (o : Option Nat) (w : World) (h : RefAt w r xs sy ro fu o) :
    Calls Try.prog 32 #[.pointer (some ⟨r, 0, none⟩), .int .i64 n] w fun e w' => e = .returned (.int .i64 (roomE n)) ∧ RefAt w' r xs sy (roomN n ro) fu o ∧ Keep (foot r o) w w' := by
  obtain ⟨v, h1, h2, h3⟩ := h
  have H2 := Lib.hid h2
  have H3 := Lib.hid h3
  have H1 := Lib.hid h1
  have c := h1.cell
  have f := h1.free
  clear h1 h2 h3
  by_cases hz : n < 0 ∨ 16777216 < n
  · have HN := Lib.hid (show roomN n ro = ro from if_pos hz)
    have HE := Lib.hid (show roomE n = 1 from if_pos hz)
    by_cases hn : n < 0
    · go_enter Try.func32, Try.ntmps32
      go_wp2
      go_ret
      exact ⟨by rw [HE.out]; rfl, ⟨v, by rw [HN.out]; exact H1.out, H2.out, H3.out⟩, Keep.refl _ _⟩
    · have d1 : decide (n < 0) = false := decide_eq_false hn
      have d2 : decide (16777216 < n) = true := decide_eq_true (by omega)
      go_enter Try.func32, Try.ntmps32
      go_wp2
      go_ret
      exact ⟨by rw [HE.out]; rfl, ⟨v, by rw [HN.out]; exact H1.out, H2.out, H3.out⟩, Keep.refl _ _⟩
  · have HN := Lib.hid (show roomN n ro = n from if_neg hz)
    have HE := Lib.hid (show roomE n = 0 from if_neg hz)
    have d1 : decide (n < 0) = false := decide_eq_false (by omega)
    have d2 : decide (16777216 < n) = false := decide_eq_false (by omega)
    go_enter Try.func32, Try.ntmps32
    go_wp2
    go_ret
    have K := Keep.set (X := fun k => k = r) (Keep.refl _ w) (p := ⟨r, 2, none⟩) (.inl rfl) (.int .i64 n)
    exact ⟨by rw [HE.out]; rfl, ⟨v, by rw [HN.out]; exact H1.out.set 2 _, H2.out.keep K (fun g hg e => H3.out (by rw [hg, e])), H3.out⟩, K.mono fun k e => .inl e⟩
end Go.Proofs.Ytfeljjbelnlojaa
