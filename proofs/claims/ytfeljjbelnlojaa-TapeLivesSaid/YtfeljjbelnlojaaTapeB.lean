/- The walks of layer 15: Sync, Append, Cut, Crash. -/
import Derived.Test.YtfeljjbelnlojaaTape
namespace Go.Proofs.Ytfeljjbelnlojaa
open Go Go.RowKit
set_option linter.unusedSimpArgs false

def syncN (xs : List Int) (sy fu : Int) : Int := if fu = 0 then sy else xs.length
theorem tsync (p : Nat) (xs : List Int) (sy ro fu : Int) (o : Option Nat) (w : World) (h : TapeAt w p xs sy ro fu o) (hf0 : -1 ≤ fu) (hf1 : fu ≤ 9223372036854775807) :
    Calls Try.prog 12 #[.pointer (some ⟨p, 0, none⟩)] w fun e w' => e = .returned (.int .i64 (burnE fu)) ∧ TapeAt w' p xs (syncN xs sy fu) ro (burn fu) o ∧ Keep (foot p o) w w' := by
  obtain ⟨v, h1, h2, h3⟩ := h
  have P := Lib.hid (tnobody p true w (h1.cell 0))
  have Q := Lib.hid (tchange p (.bool true) v (.int .i64 sy) (.int .i64 ro) fu w h1 hf0 hf1)
  have H2 := Lib.hid h2
  have H3 := Lib.hid h3
  have H1 := Lib.hid h1
  obtain ⟨q, c, rfl, hb, hle, hm, hq⟩ := h2.form
  clear h1 h2 h3
  by_cases hz : fu = 0
  · subst hz
    have HN := Lib.hid (show syncN xs sy 0 = sy from rfl)
    go_enter Try.func12, Try.ntmps12
    go_wp2_with fail
    refine P.out.mono ?_
    rintro e w1 ⟨rfl, rfl⟩
    go_wp2_with fail
    refine Q.out.mono ?_
    rintro e w1 ⟨rfl, b1, k1⟩
    have R1 := H2.out.keep k1 (fun g hg e => H3.out (by rw [hg, e]))
    have B1 := Lib.hid b1
    have K1 := Lib.hid k1
    have r1 := Lib.hid R1
    go_wp2
    go_ret
    exact ⟨rfl, by rw [HN.out]; exact ⟨_, B1.out, r1.out, H3.out⟩, K1.out.mono fun k e => .inl e⟩
  · have z1 : (fu == 0) = false := by simpa using hz
    have HE := Lib.hid (show burnE fu = 0 from if_neg hz)
    have HN := Lib.hid (show syncN xs sy fu = xs.length from if_neg hz)
    go_enter Try.func12, Try.ntmps12
    go_wp2_with fail
    refine P.out.mono ?_
    rintro e w1 ⟨rfl, rfl⟩
    go_wp2_with fail
    refine Q.out.mono ?_
    rintro e w1 ⟨rfl, b1, k1⟩
    have R1 := H2.out.keep k1 (fun g hg e => H3.out (by rw [hg, e]))
    have B1 := Lib.hid b1
    have K1 := Lib.hid k1
    have r1 := Lib.hid R1
    rw [HE.out]
    have c1 := b1.cell
    have f1 := b1.free
    clear hz
    go_wp2
    go_ret
    have K := Keep.set (X := fun k => k = p) (Keep.refl _ w1) (p := ⟨p, 2, none⟩) (.inl rfl) (.int .i64 (xs.length : Int))
    exact ⟨by rw [HE.out]; rfl, by rw [HN.out]; exact ⟨_, B1.out.set 2 _, r1.out.keep K (fun g hg e => H3.out (by rw [hg, e])), H3.out⟩, (K1.out.trans K).mono fun k e => .inl e⟩

/-- Append's answer, and the bytes behind it -/
def appE (n m : Nat) (ro fu : Int) : Int := if fu = 0 then 150 else if ro - n < m then 4 else 0
def appB (xs ys : List Int) (ro fu : Int) : List Int := if fu = 0 then xs else if ro - xs.length < ys.length then xs else xs ++ ys
set_option maxHeartbeats 800000 in
theorem tappend (p : Nat) (xs ys : List Int) (sy ro fu : Int) (o : Option Nat) (q : Option Addr) (c : Nat) (w : World) (h : TapeAt w p xs sy ro fu o) (hy : Lib.BytesIn w q ys.length ys) (hqx : 0 < ys.length → ∀ a, q = some a → ¬ foot p o a.block)
    (hl : xs.length ≤ 16777216) (hyl : ys.length ≤ 9223372036854775807) (hr0 : 0 ≤ ro) (hr1 : ro ≤ 16777216) (hf0 : -1 ≤ fu) (hf1 : fu ≤ 9223372036854775807) :
    Calls Try.prog 9 #[.pointer (some ⟨p, 0, none⟩), .slice q ys.length c] w fun e w' => e = .returned (.int .i64 (appE xs.length ys.length ro fu)) ∧ (∃ o', TapeAt w' p (appB xs ys ro fu) sy ro (burn fu) o' ∧ (o' = o ∨ ∃ g, o' = some g ∧ w.heap.size ≤ g)) ∧ Keep (foot p o) w w' := by
  obtain ⟨v, h1, h2, h3⟩ := h
  have P := Lib.hid (tnobody p true w (h1.cell 0))
  have Q := Lib.hid (tchange p (.bool true) v (.int .i64 sy) (.int .i64 ro) fu w h1 hf0 hf1)
  have H2 := Lib.hid h2
  have H3 := Lib.hid h3
  have H1 := Lib.hid h1
  have HY := Lib.hid hy
  have HQ := Lib.hid hqx
  clear hy hqx h1 h2 h3
  by_cases hz : fu = 0
  · subst hz
    have HN := Lib.hid (show appB xs ys ro 0 = xs from rfl)
    have HE := Lib.hid (show appE xs.length ys.length ro 0 = 150 from rfl)
    go_enter Try.func9, Try.ntmps9
    go_wp2_with fail
    refine P.out.mono ?_
    rintro e w1 ⟨rfl, rfl⟩
    go_wp2_with fail
    refine Q.out.mono ?_
    rintro e w1 ⟨rfl, b1, k1⟩
    have R1 := H2.out.keep k1 (fun g hg e => H3.out (by rw [hg, e]))
    have B1 := Lib.hid b1
    have K1 := Lib.hid k1
    have r1 := Lib.hid R1
    go_wp2
    go_ret
    exact ⟨by rw [HE.out]; rfl, ⟨o, by rw [HN.out]; exact ⟨_, B1.out, r1.out, H3.out⟩, .inl rfl⟩, K1.out.mono fun k e => .inl e⟩
  · have z1 : (fu == 0) = false := by simpa using hz
    have HB := Lib.hid (show burnE fu = 0 from if_neg hz)
    by_cases hfull : ro - xs.length < ys.length
    · have HN := Lib.hid (show appB xs ys ro fu = xs from by unfold appB; rw [if_neg hz, if_pos hfull])
      have HE := Lib.hid (show appE xs.length ys.length ro fu = 4 from by unfold appE; rw [if_neg hz, if_pos hfull])
      go_enter Try.func9, Try.ntmps9
      go_wp2_with fail
      refine P.out.mono ?_
      rintro e w1 ⟨rfl, rfl⟩
      go_wp2_with fail
      refine Q.out.mono ?_
      rintro e w1 ⟨rfl, b1, k1⟩
      have R1 := H2.out.keep k1 (fun g hg e => H3.out (by rw [hg, e]))
      have B1 := Lib.hid b1
      have K1 := Lib.hid k1
      have r1 := Lib.hid R1
      rw [HB.out]
      obtain ⟨q2, c2, rfl, hb2, hle2, hm2, hq2⟩ := R1.form
      have c1 := b1.cell
      have f1 := b1.free
      clear hz b1 k1 R1 hb2 hq2
      go_wp2
      go_region
      go_wp2
      go_ret
      exact ⟨by rw [HE.out]; rfl, ⟨o, by rw [HN.out]; exact ⟨_, B1.out.drew, r1.out.keep (Keep.refl _ _).drew (fun _ _ h => h) , H3.out⟩, .inl rfl⟩, (K1.out.mono fun k e => .inl e).drew⟩
    · have HN := Lib.hid (show appB xs ys ro fu = xs ++ ys from by unfold appB; rw [if_neg hz, if_neg hfull])
      have HE := Lib.hid (show appE xs.length ys.length ro fu = 0 from by unfold appE; rw [if_neg hz, if_neg hfull])
      go_enter Try.func9, Try.ntmps9
      go_wp2_with fail
      refine P.out.mono ?_
      rintro e w1 ⟨rfl, rfl⟩
      go_wp2_with fail
      refine Q.out.mono ?_
      rintro e w1 ⟨rfl, b1, k1⟩
      have R1 := H2.out.keep k1 (fun g hg e => H3.out (by rw [hg, e]))
      have B1 := Lib.hid b1
      have K1 := Lib.hid k1
      have r1 := Lib.hid R1
      rw [HB.out]
      obtain ⟨q2, c2, rfl, hb2, hle2, hm2, hq2⟩ := R1.form
      have c1 := b1.cell
      have f1 := b1.free
      clear hz b1 k1 R1 hb2 hq2
      go_wp2
      go_region

      obtain ⟨i0, hi, hz0, hz1, hz2⟩ := info_parts u8info
      obtain ⟨v', w3, o', hrun, hrow, ho, hk⟩ := row_append (P := Try.prog) 28 28 i0 (.int .u8 0) Try.underlying28 hi hz0 hz1 hz2 rfl (r1.out.keep (Keep.refl (fun _ => False) w1).drew (fun _ _ h => h)) (c := c) (bytes_keep HY.out K1.out.drew (fun h0 a ha e => HQ.out h0 a ha (.inl e))) (by omega)
      generalize xs ++ ys = zs at *
      obtain ⟨q3, c3', rfl, _⟩ := hrow.form
      have B3 := hk.blk B1.out.drew H3.out
      have c3 := B3.cell
      have f3 := B3.free
      have HR := Lib.hid hrow
      have HO := Lib.hid ho
      have HK := Lib.hid hk
      have H33 := Lib.hid B3
      clear hi hz0 hz1 hz2 hrow ho hk B3
      go_wp2_with (at_builtin; refine wpl_append rfl _ _ 28 rfl rfl rfl hrun ?_)
      go_ret
      have hop : o' ≠ some p := by
        rcases HO.out with h | ⟨g, h, hg⟩
        · rw [h]; exact H3.out
        · rw [h]; intro e; cases e; have := B1.out.lt; simp at hg; omega
      have K := Keep.set (X := fun k => k = p) (Keep.refl _ w3) (p := ⟨p, 1, none⟩) (.inl rfl) (.slice q3 zs.length c3')
      refine ⟨by rw [HE.out]; rfl, ⟨o', by rw [HN.out]; exact ⟨_, H33.out.set 1 _, HR.out.keep K (fun g hg e => hop (by rw [hg, e])), hop⟩, ?_⟩, ?_⟩
      · rcases HO.out with h | ⟨g, h, hg⟩
        · exact .inl h
        · exact .inr ⟨g, h, Nat.le_trans K1.out.size (by simpa using hg)⟩
      · exact (((K1.out.mono (Y := foot p o) fun k e => .inl e).drew).trans (HK.out.mono fun k e => .inr e)).trans (K.mono fun k e => .inl e)

def cutE (n len fu : Int) : Int := if n < 0 ∨ len < n then 1 else burnE fu
def cutB (xs : List Int) (n fu : Int) : List Int := if n < 0 ∨ (xs.length : Int) < n ∨ fu = 0 then xs else xs.take n.toNat
def cutS (xs : List Int) (sy n fu : Int) : Int := if n < 0 ∨ (xs.length : Int) < n ∨ fu = 0 then sy else n
def cutF (len n fu : Int) : Int := if n < 0 ∨ len < n then fu else burn fu
set_option maxHeartbeats 800000 in
theorem tcut (p : Nat) (xs : List Int) (sy ro fu n : Int) (o : Option Nat) (w : World) (h : TapeAt w p xs sy ro fu o) (hl : xs.length ≤ 16777216) (hf0 : -1 ≤ fu) (hf1 : fu ≤ 9223372036854775807) :
    Calls Try.prog 18 #[.pointer (some ⟨p, 0, none⟩), .int .i64 n] w fun e w' => e = .returned (.int .i64 (cutE n xs.length fu)) ∧ TapeAt w' p (cutB xs n fu) (cutS xs sy n fu) ro (cutF xs.length n fu) o ∧ Keep (foot p o) w w' := by
  obtain ⟨v, h1, h2, h3⟩ := h
  have P := Lib.hid (tnobody p true w (h1.cell 0))
  have Q := Lib.hid (tchange p (.bool true) v (.int .i64 sy) (.int .i64 ro) fu w h1 hf0 hf1)
  have H2 := Lib.hid h2
  have H3 := Lib.hid h3
  have H1 := Lib.hid h1
  obtain ⟨q2, c2, rfl, hb2, hle2, hm2, hq2⟩ := h2.form
  have c1 := h1.cell
  clear h1 h2 h3 hb2 hq2
  by_cases hn : n < 0 ∨ (xs.length : Int) < n
  · have hn3 : n < 0 ∨ (xs.length : Int) < n ∨ fu = 0 := by omega
    have HE := Lib.hid (show cutE n xs.length fu = 1 from if_pos hn)
    have HBB := Lib.hid (show cutB xs n fu = xs from if_pos hn3)
    have HS := Lib.hid (show cutS xs sy n fu = sy from if_pos hn3)
    have HF := Lib.hid (show cutF xs.length n fu = fu from if_pos hn)
    by_cases hn0 : n < 0
    · have d1 : decide (n < 0) = true := decide_eq_true hn0
      clear hn hn3
      go_enter Try.func18, Try.ntmps18
      go_wp2_with fail
      refine P.out.mono ?_
      rintro e w1 ⟨rfl, rfl⟩
      go_wp2
      go_ret
      exact ⟨by rw [HE.out]; rfl, by rw [HBB.out, HS.out, HF.out]; exact ⟨_, H1.out, H2.out, H3.out⟩, Keep.refl _ _⟩
    · have d1 : decide (n < 0) = false := decide_eq_false hn0
      have d2 : decide ((xs.length : Int) < n) = true := decide_eq_true (by omega)
      clear hn hn3
      go_enter Try.func18, Try.ntmps18
      go_wp2_with fail
      refine P.out.mono ?_
      rintro e w1 ⟨rfl, rfl⟩
      go_wp2
      go_ret
      exact ⟨by rw [HE.out]; rfl, by rw [HBB.out, HS.out, HF.out]; exact ⟨_, H1.out, H2.out, H3.out⟩, Keep.refl _ _⟩
  · have d1 : decide (n < 0) = false := decide_eq_false (by omega)
    have d2 : decide ((xs.length : Int) < n) = false := decide_eq_false (by omega)
    have HE := Lib.hid (show cutE n xs.length fu = burnE fu from if_neg hn)
    have HF := Lib.hid (show cutF xs.length n fu = burn fu from if_neg hn)
    have hnn : n.toNat ≤ xs.length := by omega
    have hN : n = (n.toNat : Int) := by omega
    generalize n.toNat = N at *
    subst hN
    by_cases hz : fu = 0
    · subst hz
      have HBB := Lib.hid (show cutB xs N 0 = xs from if_pos (.inr (.inr rfl)))
      have HS := Lib.hid (show cutS xs sy N 0 = sy from if_pos (.inr (.inr rfl)))
      clear hn
      go_enter Try.func18, Try.ntmps18
      go_wp2_with fail
      refine P.out.mono ?_
      rintro e w1 ⟨rfl, rfl⟩
      go_wp2_with fail
      refine Q.out.mono ?_
      rintro e w1 ⟨rfl, b1, k1⟩
      have R1 := H2.out.keep k1 (fun g hg e => H3.out (by rw [hg, e]))
      have B1 := Lib.hid b1
      have K1 := Lib.hid k1
      have r1 := Lib.hid R1
      clear b1 k1 R1
      go_wp2
      go_ret
      exact ⟨by rw [HE.out]; rfl, by rw [HBB.out, HS.out, HF.out]; exact ⟨_, B1.out, r1.out, H3.out⟩, K1.out.mono fun k e => .inl e⟩
    · have z1 : (fu == 0) = false := by simpa using hz
      have HB := Lib.hid (show burnE fu = 0 from if_neg hz)
      have HBB := Lib.hid (show cutB xs N fu = xs.take N from (if_neg (by omega)).trans (by rw [Int.toNat_natCast]))
      have HS := Lib.hid (show cutS xs sy N fu = N from if_neg (by omega))
      clear hn
      go_enter Try.func18, Try.ntmps18
      go_wp2_with fail
      refine P.out.mono ?_
      rintro e w1 ⟨rfl, rfl⟩
      go_wp2_with fail
      refine Q.out.mono ?_
      rintro e w1 ⟨rfl, b1, k1⟩
      have R1 := H2.out.keep k1 (fun g hg e => H3.out (by rw [hg, e]))
      have B1 := Lib.hid b1
      have K1 := Lib.hid k1
      have r1 := Lib.hid R1
      rw [HB.out]
      have PK := Lib.hid (tkeep p (.bool true) (.int .i64 sy) (.int .i64 ro) (.int .i64 (burn fu)) q2 xs.length c2 N w1 b1 (by omega))
      clear hz b1 k1 R1
      go_wp2_with fail
      refine PK.out.mono ?_
      rintro e w2 ⟨rfl, b2, k2⟩
      have B2 := Lib.hid b2
      have K2 := Lib.hid k2
      clear b2 k2
      go_wp2
      go_ret
      exact ⟨by rw [HE.out, HB.out]; rfl, by rw [HBB.out, HS.out, HF.out]; exact ⟨_, B2.out, (r1.out.keep K2.out (fun g hg e => H3.out (by rw [hg, e]))).cut hnn, H3.out⟩, (K1.out.trans K2.out).mono fun k e => .inl e⟩
end Go.Proofs.Ytfeljjbelnlojaa
