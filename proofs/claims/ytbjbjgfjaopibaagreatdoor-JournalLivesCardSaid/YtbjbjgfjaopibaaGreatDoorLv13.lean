import Derived.Test.YtbjbjgfjaopibaaGreatDoorLv12
import Derived.Test.YtbjbjgfjaopibaaGreatDoorLv2
section
/- The walks of layer 15: Sync, Append, Cut, Crash. -/
namespace Go.Proofs.YtbjbjgfjaopibaaGreatDoor
open Go Go.RowKit
set_option linter.unusedSimpArgs false
set_option maxRecDepth 100000

def syncN (xs : List Int) (sy fu : Int) : Int := if fu = 0 then sy else xs.length
theorem tsync (p : Nat) (xs : List Int) (sy ro fu : Int) (o : Option Nat) (w : World) (h : TapeAt w p xs sy ro fu o) (hf0 : -1 ≤ fu) (hf1 : fu ≤ 9223372036854775807) :
    Calls Tryz.prog 45 #[.pointer (some ⟨p, 0, none⟩)] w fun e w' => e = .returned (.int .i64 (burnE fu)) ∧ TapeAt w' p xs (syncN xs sy fu) ro (burn fu) o ∧ Keep (foot p o) w w' := by
  obtain ⟨v, h1, h2, h3⟩ := h
  have P := Lib.hid (tnobody p true w (h1.cell 0))
  have Q := Lib.hid (tchange p (.bool true) v (.int .i64 sy) (.int .i64 ro) fu w h1 hf0 hf1)
  have H2 := Lib.hid h2
  have H3 := Lib.hid h3
  have H1 := Lib.hid h1
  obtain ⟨q, c, rfl, hb, hle, hm, hq⟩ := h2.form
  clear h1 h2 h3
  by_cases hz : fu = 0
  · subst hz
    have HN := Lib.hid (show syncN xs sy 0 = sy from rfl)
    go_enter Tryz.func45, Tryz.ntmps45
    go_wp2_with fail
    refine P.out.mono ?_
    rintro e w1 ⟨rfl, rfl⟩
    go_wp2_with fail
    refine Q.out.mono ?_
    rintro e w1 ⟨rfl, b1, k1⟩
    have R1 := H2.out.keep k1 (fun g hg e => H3.out (by rw [hg, e]))
    have B1 := Lib.hid b1
    have K1 := Lib.hid k1
    have r1 := Lib.hid R1
    go_wp2
    go_ret
    exact ⟨rfl, by rw [HN.out]; exact ⟨_, B1.out, r1.out, H3.out⟩, K1.out.mono fun k e => .inl e⟩
  · have z1 : (fu == 0) = false := by simpa using hz
    have HE := Lib.hid (show burnE fu = 0 from if_neg hz)
    have HN := Lib.hid (show syncN xs sy fu = xs.length from if_neg hz)
    go_enter Tryz.func45, Tryz.ntmps45
    go_wp2_with fail
    refine P.out.mono ?_
    rintro e w1 ⟨rfl, rfl⟩
    go_wp2_with fail
    refine Q.out.mono ?_
    rintro e w1 ⟨rfl, b1, k1⟩
    have R1 := H2.out.keep k1 (fun g hg e => H3.out (by rw [hg, e]))
    have B1 := Lib.hid b1
    have K1 := Lib.hid k1
    have r1 := Lib.hid R1
    rw [HE.out]
    have c1 := b1.cell
    have f1 := b1.free
    clear hz
    go_wp2
    go_ret
    have K := Keep.set (X := fun k => k = p) (Keep.refl _ w1) (p := ⟨p, 2, none⟩) (.inl rfl) (.int .i64 (xs.length : Int))
    exact ⟨by rw [HE.out]; rfl, by rw [HN.out]; exact ⟨_, B1.out.set 2 _, r1.out.keep K (fun g hg e => H3.out (by rw [hg, e])), H3.out⟩, (K1.out.trans K).mono fun k e => .inl e⟩

/-- Append's answer, and the bytes behind it -/
def appE (n m : Nat) (ro fu : Int) : Int := if fu = 0 then 150 else if ro - n < m then 4 else 0
def appB (xs ys : List Int) (ro fu : Int) : List Int := if fu = 0 then xs else if ro - xs.length < ys.length then xs else xs ++ ys
set_option maxHeartbeats 800000 in
theorem tappend (p : Nat) (xs ys : List Int) (sy ro fu : Int) (o : Option Nat) (q : Option Addr) (c : Nat) (w : World) (h : TapeAt w p xs sy ro fu o) (hy : Lib.BytesIn w q ys.length ys) (hqx : 0 < ys.length → ∀ a, q = some a → ¬ foot p o a.block)
    (hl : xs.length ≤ 16777216) (hyl : ys.length ≤ 9223372036854775807) (hr0 : 0 ≤ ro) (hr1 : ro ≤ 16777216) (hf0 : -1 ≤ fu) (hf1 : fu ≤ 9223372036854775807) :
    Calls Tryz.prog 22 #[.pointer (some ⟨p, 0, none⟩), .slice q ys.length c] w fun e w' => e = .returned (.int .i64 (appE xs.length ys.length ro fu)) ∧ (∃ o', TapeAt w' p (appB xs ys ro fu) sy ro (burn fu) o' ∧ (o' = o ∨ ∃ g, o' = some g ∧ w.heap.size ≤ g)) ∧ Keep (foot p o) w w' := by
  obtain ⟨v, h1, h2, h3⟩ := h
  have P := Lib.hid (tnobody p true w (h1.cell 0))
  have Q := Lib.hid (tchange p (.bool true) v (.int .i64 sy) (.int .i64 ro) fu w h1 hf0 hf1)
  have H2 := Lib.hid h2
  have H3 := Lib.hid h3
  have H1 := Lib.hid h1
  have HY := Lib.hid hy
  have HQ := Lib.hid hqx
  clear hy hqx h1 h2 h3
  by_cases hz : fu = 0
  · subst hz
    have HN := Lib.hid (show appB xs ys ro 0 = xs from rfl)
    have HE := Lib.hid (show appE xs.length ys.length ro 0 = 150 from rfl)
    go_enter Tryz.func22, Tryz.ntmps22
    go_wp2_with fail
    refine P.out.mono ?_
    rintro e w1 ⟨rfl, rfl⟩
    go_wp2_with fail
    refine Q.out.mono ?_
    rintro e w1 ⟨rfl, b1, k1⟩
    have R1 := H2.out.keep k1 (fun g hg e => H3.out (by rw [hg, e]))
    have B1 := Lib.hid b1
    have K1 := Lib.hid k1
    have r1 := Lib.hid R1
    go_wp2
    go_ret
    exact ⟨by rw [HE.out]; rfl, ⟨o, by rw [HN.out]; exact ⟨_, B1.out, r1.out, H3.out⟩, .inl rfl⟩, K1.out.mono fun k e => .inl e⟩
  · have z1 : (fu == 0) = false := by simpa using hz
    have HB := Lib.hid (show burnE fu = 0 from if_neg hz)
    by_cases hfull : ro - xs.length < ys.length
    · have HN := Lib.hid (show appB xs ys ro fu = xs from by unfold appB; rw [if_neg hz, if_pos hfull])
      have HE := Lib.hid (show appE xs.length ys.length ro fu = 4 from by unfold appE; rw [if_neg hz, if_pos hfull])
      go_enter Tryz.func22, Tryz.ntmps22
      go_wp2_with fail
      refine P.out.mono ?_
      rintro e w1 ⟨rfl, rfl⟩
      go_wp2_with fail
      refine Q.out.mono ?_
      rintro e w1 ⟨rfl, b1, k1⟩
      have R1 := H2.out.keep k1 (fun g hg e => H3.out (by rw [hg, e]))
      have B1 := Lib.hid b1
      have K1 := Lib.hid k1
      have r1 := Lib.hid R1
      rw [HB.out]
      obtain ⟨q2, c2, rfl, hb2, hle2, hm2, hq2⟩ := R1.form
      have c1 := b1.cell
      have f1 := b1.free
      clear hz b1 k1 R1 hb2 hq2
      go_wp2
      go_region
      go_wp2
      go_ret
      exact ⟨by rw [HE.out]; rfl, ⟨o, by rw [HN.out]; exact ⟨_, B1.out.drew, r1.out.keep (Keep.refl _ _).drew (fun _ _ h => h) , H3.out⟩, .inl rfl⟩, (K1.out.mono fun k e => .inl e).drew⟩
    · have HN := Lib.hid (show appB xs ys ro fu = xs ++ ys from by unfold appB; rw [if_neg hz, if_neg hfull])
      have HE := Lib.hid (show appE xs.length ys.length ro fu = 0 from by unfold appE; rw [if_neg hz, if_neg hfull])
      go_enter Tryz.func22, Tryz.ntmps22
      go_wp2_with fail
      refine P.out.mono ?_
      rintro e w1 ⟨rfl, rfl⟩
      go_wp2_with fail
      refine Q.out.mono ?_
      rintro e w1 ⟨rfl, b1, k1⟩
      have R1 := H2.out.keep k1 (fun g hg e => H3.out (by rw [hg, e]))
      have B1 := Lib.hid b1
      have K1 := Lib.hid k1
      have r1 := Lib.hid R1
      rw [HB.out]
      obtain ⟨q2, c2, rfl, hb2, hle2, hm2, hq2⟩ := R1.form
      have c1 := b1.cell
      have f1 := b1.free
      clear hz b1 k1 R1 hb2 hq2
      go_wp2
      go_region

      obtain ⟨i0, hi, hz0, hz1, hz2⟩ := info_parts u8info
      obtain ⟨v', w3, o', hrun, hrow, ho, hk⟩ := row_append (P := Tryz.prog) 22 22 i0 (.int .u8 0) Tryz.underlying22 hi hz0 hz1 hz2 rfl (r1.out.keep (Keep.refl (fun _ => False) w1).drew (fun _ _ h => h)) (c := c) (bytes_keep HY.out K1.out.drew (fun h0 a ha e => HQ.out h0 a ha (.inl e))) (by omega)
      generalize xs ++ ys = zs at *
      obtain ⟨q3, c3', rfl, _⟩ := hrow.form
      have B3 := hk.blk B1.out.drew H3.out
      have c3 := B3.cell
      have f3 := B3.free
      have HR := Lib.hid hrow
      have HO := Lib.hid ho
      have HK := Lib.hid hk
      have H33 := Lib.hid B3
      clear hi hz0 hz1 hz2 hrow ho hk B3
      go_wp2_with (at_builtin; refine wpl_append rfl _ _ 22 rfl rfl rfl hrun ?_)
      go_ret
      have hop : o' ≠ some p := by
        rcases HO.out with h | ⟨g, h, hg⟩
        · rw [h]; exact H3.out
        · rw [h]; intro e; cases e; have := B1.out.lt; simp at hg; omega
      have K := Keep.set (X := fun k => k = p) (Keep.refl _ w3) (p := ⟨p, 1, none⟩) (.inl rfl) (.slice q3 zs.length c3')
      refine ⟨by rw [HE.out]; rfl, ⟨o', by rw [HN.out]; exact ⟨_, H33.out.set 1 _, HR.out.keep K (fun g hg e => hop (by rw [hg, e])), hop⟩, ?_⟩, ?_⟩
      · rcases HO.out with h | ⟨g, h, hg⟩
        · exact .inl h
        · exact .inr ⟨g, h, Nat.le_trans K1.out.size (by simpa using hg)⟩
      · exact (((K1.out.mono (Y := foot p o) fun k e => .inl e).drew).trans (HK.out.mono fun k e => .inr e)).trans (K.mono fun k e => .inl e)

def cutE (n len fu : Int) : Int := if n < 0 ∨ len < n then 1 else burnE fu
def cutB (xs : List Int) (n fu : Int) : List Int := if n < 0 ∨ (xs.length : Int) < n ∨ fu = 0 then xs else xs.take n.toNat
def cutS (xs : List Int) (sy n fu : Int) : Int := if n < 0 ∨ (xs.length : Int) < n ∨ fu = 0 then sy else n
def cutF (len n fu : Int) : Int := if n < 0 ∨ len < n then fu else burn fu
set_option maxHeartbeats 800000 in
theorem tcut (p : Nat) (xs : List Int) (sy ro fu n : Int) (o : Option Nat) (w : World) (h : TapeAt w p xs sy ro fu o) (hl : xs.length ≤ 16777216) (hf0 : -1 ≤ fu) (hf1 : fu ≤ 9223372036854775807) :
    Calls Tryz.prog 37 #[.pointer (some ⟨p, 0, none⟩), .int .i64 n] w fun e w' => e = .returned (.int .i64 (cutE n xs.length fu)) ∧ TapeAt w' p (cutB xs n fu) (cutS xs sy n fu) ro (cutF xs.length n fu) o ∧ Keep (foot p o) w w' := by
  obtain ⟨v, h1, h2, h3⟩ := h
  have P := Lib.hid (tnobody p true w (h1.cell 0))
  have Q := Lib.hid (tchange p (.bool true) v (.int .i64 sy) (.int .i64 ro) fu w h1 hf0 hf1)
  have H2 := Lib.hid h2
  have H3 := Lib.hid h3
  have H1 := Lib.hid h1
  obtain ⟨q2, c2, rfl, hb2, hle2, hm2, hq2⟩ := h2.form
  have c1 := h1.cell
  clear h1 h2 h3 hb2 hq2
  by_cases hn : n < 0 ∨ (xs.length : Int) < n
  · have hn3 : n < 0 ∨ (xs.length : Int) < n ∨ fu = 0 := by omega
    have HE := Lib.hid (show cutE n xs.length fu = 1 from if_pos hn)
    have HBB := Lib.hid (show cutB xs n fu = xs from if_pos hn3)
    have HS := Lib.hid (show cutS xs sy n fu = sy from if_pos hn3)
    have HF := Lib.hid (show cutF xs.length n fu = fu from if_pos hn)
    by_cases hn0 : n < 0
    · have d1 : decide (n < 0) = true := decide_eq_true hn0
      clear hn hn3
      go_enter Tryz.func37, Tryz.ntmps37
      go_wp2_with fail
      refine P.out.mono ?_
      rintro e w1 ⟨rfl, rfl⟩
      go_wp2
      go_ret
      exact ⟨by rw [HE.out]; rfl, by rw [HBB.out, HS.out, HF.out]; exact ⟨_, H1.out, H2.out, H3.out⟩, Keep.refl _ _⟩
    · have d1 : decide (n < 0) = false := decide_eq_false hn0
      have d2 : decide ((xs.length : Int) < n) = true := decide_eq_true (by omega)
      clear hn hn3
      go_enter Tryz.func37, Tryz.ntmps37
      go_wp2_with fail
      refine P.out.mono ?_
      rintro e w1 ⟨rfl, rfl⟩
      go_wp2
      go_ret
      exact ⟨by rw [HE.out]; rfl, by rw [HBB.out, HS.out, HF.out]; exact ⟨_, H1.out, H2.out, H3.out⟩, Keep.refl _ _⟩
  · have d1 : decide (n < 0) = false := decide_eq_false (by omega)
    have d2 : decide ((xs.length : Int) < n) = false := decide_eq_false (by omega)
    have HE := Lib.hid (show cutE n xs.length fu = burnE fu from if_neg hn)
    have HF := Lib.hid (show cutF xs.length n fu = burn fu from if_neg hn)
    have hnn : n.toNat ≤ xs.length := by omega
    have hN : n = (n.toNat : Int) := by omega
    generalize n.toNat = N at *
    subst hN
    by_cases hz : fu = 0
    · subst hz
      have HBB := Lib.hid (show cutB xs N 0 = xs from if_pos (.inr (.inr rfl)))
      have HS := Lib.hid (show cutS xs sy N 0 = sy from if_pos (.inr (.inr rfl)))
      clear hn
      go_enter Tryz.func37, Tryz.ntmps37
      go_wp2_with fail
      refine P.out.mono ?_
      rintro e w1 ⟨rfl, rfl⟩
      go_wp2_with fail
      refine Q.out.mono ?_
      rintro e w1 ⟨rfl, b1, k1⟩
      have R1 := H2.out.keep k1 (fun g hg e => H3.out (by rw [hg, e]))
      have B1 := Lib.hid b1
      have K1 := Lib.hid k1
      have r1 := Lib.hid R1
      clear b1 k1 R1
      go_wp2
      go_ret
      exact ⟨by rw [HE.out]; rfl, by rw [HBB.out, HS.out, HF.out]; exact ⟨_, B1.out, r1.out, H3.out⟩, K1.out.mono fun k e => .inl e⟩
    · have z1 : (fu == 0) = false := by simpa using hz
      have HB := Lib.hid (show burnE fu = 0 from if_neg hz)
      have HBB := Lib.hid (show cutB xs N fu = xs.take N from (if_neg (by omega)).trans (by rw [Int.toNat_natCast]))
      have HS := Lib.hid (show cutS xs sy N fu = N from if_neg (by omega))
      clear hn
      go_enter Tryz.func37, Tryz.ntmps37
      go_wp2_with fail
      refine P.out.mono ?_
      rintro e w1 ⟨rfl, rfl⟩
      go_wp2_with fail
      refine Q.out.mono ?_
      rintro e w1 ⟨rfl, b1, k1⟩
      have R1 := H2.out.keep k1 (fun g hg e => H3.out (by rw [hg, e]))
      have B1 := Lib.hid b1
      have K1 := Lib.hid k1
      have r1 := Lib.hid R1
      rw [HB.out]
      have PK := Lib.hid (tkeep p (.bool true) (.int .i64 sy) (.int .i64 ro) (.int .i64 (burn fu)) q2 xs.length c2 N w1 b1 (by omega))
      clear hz b1 k1 R1
      go_wp2_with fail
      refine PK.out.mono ?_
      rintro e w2 ⟨rfl, b2, k2⟩
      have B2 := Lib.hid b2
      have K2 := Lib.hid k2
      clear b2 k2
      go_wp2
      go_ret
      exact ⟨by rw [HE.out, HB.out]; rfl, by rw [HBB.out, HS.out, HF.out]; exact ⟨_, B2.out, (r1.out.keep K2.out (fun g hg e => H3.out (by rw [hg, e]))).cut hnn, H3.out⟩, (K1.out.trans K2.out).mono fun k e => .inl e⟩
end Go.Proofs.YtbjbjgfjaopibaaGreatDoor
end

section
/- The walks of layer 15: Crash, Copy, Of, New. -/
namespace Go.Proofs.YtbjbjgfjaopibaaGreatDoor
open Go Go.RowKit
set_option linter.unusedSimpArgs false
set_option maxRecDepth 100000

/-- how many bytes a crash leaves -/
def crashN (len : Nat) (sy n : Int) : Nat := (sy + max 0 (min n (len - sy))).toNat
theorem crashN_le (len : Nat) (sy n : Int) (h0 : 0 ≤ sy) (h1 : sy ≤ len) : crashN len sy n ≤ len ∧ sy ≤ crashN len sy n ∧ sy + max 0 (min n (len - sy)) = (crashN len sy n : Int) := by unfold crashN; omega
set_option maxHeartbeats 800000 in
theorem tcrash (p : Nat) (xs : List Int) (sy ro fu n : Int) (o : Option Nat) (w : World) (h : TapeAt w p xs sy ro fu o) (hl : xs.length ≤ 16777216) (hs0 : 0 ≤ sy) (hs1 : sy ≤ xs.length) :
    Calls Tryz.prog 21 #[.pointer (some ⟨p, 0, none⟩), .int .i64 n] w fun e w' => e = .returned (.int .i64 0) ∧ TapeAt w' p (xs.take (crashN xs.length sy n)) (crashN xs.length sy n) ro (-1) o ∧ Keep (foot p o) w w' := by
  obtain ⟨v, h1, h2, h3⟩ := h
  have P := Lib.hid (tnobody p true w (h1.cell 0))
  have H2 := Lib.hid h2
  have H3 := Lib.hid h3
  have H1 := Lib.hid h1
  obtain ⟨q2, c2, rfl, hb2, hle2, hm2, hq2⟩ := h2.form
  obtain ⟨k1, k2, k3⟩ := crashN_le xs.length sy n hs0 hs1
  have PK := Lib.hid (tkeep p (.bool true) (.int .i64 sy) (.int .i64 ro) (.int .i64 fu) q2 xs.length c2 (crashN xs.length sy n) w.drew h1.drew (by omega))
  generalize crashN xs.length sy n = N at *
  have c1 := h1.cell
  have i1 := IntWalk.i64_in ((xs.length : Int) - sy) (by omega)
  have i2 : IntKind.i64.wrap (sy + max 0 (min n ((xs.length : Int) - sy))) = (N : Int) := by rw [k3]; exact IntWalk.i64_in _ (by omega)
  clear h1 h2 h3 hb2 hq2
  go_enter Tryz.func21, Tryz.ntmps21
  go_wp2_with fail
  refine P.out.mono ?_
  rintro e w1 ⟨rfl, rfl⟩
  go_wp2_with fail
  go_still_tail 19, (by kernel_rfl)
  change wpList _ _ _ _ _ w.drew
  go_wp2_with fail
  refine PK.out.mono ?_
  rintro e w2 ⟨rfl, b2, k2⟩
  have R2 := H2.out.keep (((Keep.refl (fun k => k = p) w).drew).trans k2) (fun g hg e => H3.out (by rw [hg, e]))
  have K2 := Lib.hid k2
  have B2 := Lib.hid b2
  have RR := Lib.hid R2
  have c2' := b2.cell
  have f2 := b2.free
  clear k2 b2 R2 c1 i1 i2
  go_wp2
  go_ret
  have K := Keep.set (X := fun k => k = p) (Keep.refl _ w2) (p := ⟨p, 4, none⟩) (.inl rfl) (.int .i64 (-1))
  exact ⟨rfl, ⟨_, B2.out.set 4 _, (RR.out.keep K (fun g hg e => H3.out (by rw [hg, e]))).cut k1, H3.out⟩, ((((Keep.refl (fun k => k = p) w).drew).trans K2.out).trans K).mono fun k e => .inl e⟩
theorem clone_row (v : Value) (xs : List Int) (o : Option Nat) (w : World) (h : Row w 5 v xs o) (hl : xs.length ≤ 140737488355328) :
    Calls Tryz.prog 9 #[v] w fun e w' => ∃ q c o', e = .returned (.slice q xs.length c) ∧ Row w' 5 (.slice q xs.length c) xs o' ∧ (∀ g, o' = some g → w.heap.size ≤ g) ∧ Below w.heap.size w w' := by
  obtain ⟨q, cc, rfl, hb, hle, hm, hq⟩ := h.form
  rcases hq with ⟨rfl, rfl, rfl, rfl⟩ | ⟨g, rfl, rfl, hg⟩
  · refine (Tryz.bytes_Clone_nil 0 0 w).mono ?_
    rintro e w1 ⟨rfl, rfl⟩
    exact ⟨none, 0, none, rfl, Row.nil _ _, fun g hg => by (cases hg), Below.refl _ _⟩
  · refine (Tryz.bytes_Clone_at ⟨g, 0, none⟩ xs.length cc xs w rfl hl (fun i hi => by
      obtain ⟨b, o2, e1, hc⟩ := hb.at (by omega)
      simp at e1; obtain ⟨rfl, rfl⟩ := e1
      rw [Addr.add_lit]; exact hc i hi)).mono ?_
    rintro e w1 ⟨v', rfl, hown, hne, hbel⟩
    obtain ⟨o', r1, r2, r3⟩ := Row.of_owns hown
    obtain ⟨q', c', rfl, _⟩ := r1.form
    exact ⟨q', c', o', rfl, r1, fun g hg => (r2 g hg).1, hbel⟩
/-- Clone of an argument's bytes -/
theorem clone_arg (q : Option Addr) (c : Nat) (xs : List Int) (w : World) (h : Lib.BytesIn w q xs.length xs) (hl : xs.length ≤ 140737488355328) :
    Calls Tryz.prog 9 #[.slice q xs.length c] w fun e w' => ∃ q c o', e = .returned (.slice q xs.length c) ∧ Row w' 5 (.slice q xs.length c) xs o' ∧ (∀ g, o' = some g → w.heap.size ≤ g) ∧ Below w.heap.size w w' := by
  cases q with
  | none =>
    have h0 : xs = [] := by
      apply Classical.byContradiction; intro hne
      obtain ⟨b, o, e, _⟩ := h.at (List.length_pos_iff.2 hne)
      cases e
    subst h0
    refine (Tryz.bytes_Clone_nil 0 c w).mono ?_
    rintro e w1 ⟨rfl, rfl⟩
    exact ⟨none, 0, none, rfl, Row.nil _ _, fun g hg => by (cases hg), Below.refl _ _⟩
  | some a =>
    refine (Tryz.bytes_Clone_at a xs.length c xs w rfl hl (fun i hi => by
      obtain ⟨b, o2, e1, hc⟩ := h.at (by omega)
      simp at e1; subst e1
      rw [Addr.add_lit]; exact hc i hi)).mono ?_
    rintro e w1 ⟨v', rfl, hown, hne, hbel⟩
    obtain ⟨o', r1, r2, r3⟩ := Row.of_owns hown
    obtain ⟨q', c', rfl, _⟩ := r1.form
    exact ⟨q', c', o', rfl, r1, fun g hg => (r2 g hg).1, hbel⟩
/-- Of's answer -/
def ofE (len : Nat) (ro : Int) : Int := if ro < 0 ∨ 16777216 < ro ∨ ro < len then 1 else 0
theorem tof_bad (q : Option Addr) (c n : Nat) (ro : Int) (w : World) (h : ro < 0 ∨ 16777216 < ro ∨ ro < n) :
    Calls Tryz.prog 4 #[.slice q n c, .int .i64 ro] w fun e w' => e = .returned (.tuple #[.pointer none, .int .i64 1]) ∧ w = w' := by
  by_cases h0 : ro < 0
  · have d1 : decide (ro < 0) = true := decide_eq_true h0
    clear h
    go_enter Tryz.func4, Tryz.ntmps4
    go_wp2
    go_ret2
    exact ⟨rfl, rfl⟩
  · have d1 : decide (ro < 0) = false := decide_eq_false h0
    by_cases h1 : 16777216 < ro
    · have d2 : decide (16777216 < ro) = true := decide_eq_true h1
      clear h
      go_enter Tryz.func4, Tryz.ntmps4
      go_wp2
      go_ret2
      exact ⟨rfl, rfl⟩
    · have d2 : decide (16777216 < ro) = false := decide_eq_false h1
      have d3 : decide (ro < (n : Int)) = true := decide_eq_true (by omega)
      clear h
      go_enter Tryz.func4, Tryz.ntmps4
      go_wp2
      go_ret2
      exact ⟨rfl, rfl⟩
theorem tof (q : Option Addr) (c : Nat) (xs : List Int) (ro : Int) (w : World) (hx : Lib.BytesIn w q xs.length xs) (h0 : 0 ≤ ro) (h1 : ro ≤ 16777216) (h2 : xs.length ≤ ro) :
    Calls Tryz.prog 4 #[.slice q xs.length c, .int .i64 ro] w fun e w' => ∃ p o, e = .returned (.tuple #[.pointer (some ⟨p, 0, none⟩), .int .i64 0]) ∧ TapeAt w' p xs xs.length ro (-1) o ∧ w.heap.size ≤ p ∧ (∀ g, o = some g → w.heap.size ≤ g) ∧ Below w.heap.size w w' := by
  have P := Lib.hid (clone_arg q c xs w hx (by omega))
  have d1 : decide (ro < 0) = false := decide_eq_false (by omega)
  have d2 : decide (16777216 < ro) = false := decide_eq_false (by omega)
  have d3 : decide (ro < (xs.length : Int)) = false := decide_eq_false (by omega)
  clear hx
  go_enter Tryz.func4, Tryz.ntmps4
  go_wp2_with fail
  refine P.out.mono ?_
  rintro e w1 ⟨q', c', o', rfl, hr, ho, hb⟩
  have HR := Lib.hid hr
  have HO := Lib.hid ho
  have HB := Lib.hid hb
  clear hr ho hb
  go_wp2
  go_ret2
  have hlt := HR.out.lt
  exact ⟨w1.heap.size, o', rfl, ⟨_, Blk.new _ _ _, HR.out.keep ((Keep.refl (fun _ => False) w1).alloc _) (fun _ _ h => h), fun e => by have := hlt _ e; omega⟩, HB.out.size, HO.out, HB.out.alloc HB.out.size _⟩
end Go.Proofs.YtbjbjgfjaopibaaGreatDoor
end

section
/- journal.do, walked. -/
namespace Go.Proofs.YtbjbjgfjaopibaaGreatDoor
open Go Go.RowKit Go.ChangeShapes Go.WideShapes Go.ChangeAt
set_option linter.unusedSimpArgs false
set_option linter.unusedVariables false
set_option maxRecDepth 100000

/-- where a batch lies -/
def BatIn (N : Nat → Prop) (X : BatchD) : Prop :=
  (0 < X.puts.n → ∀ q, X.puts.a = some q → N q.block) ∧ (0 < X.dels.n → ∀ q, X.dels.a = some q → N q.block) ∧ ∀ i, i < X.puts.n → 0 < (X.puts.x i).val.z.length → ∀ q, (X.puts.x i).val.a = some q → N q.block
theorem BatIn.mono {N M : Nat → Prop} {X : BatchD} (h : BatIn N X) (hm : ∀ g, N g → M g) : BatIn M X :=
  ⟨fun h0 q hq => hm _ (h.1 h0 q hq), fun h0 q hq => hm _ (h.2.1 h0 q hq), fun i hi h0 q hq => hm _ (h.2.2 i hi h0 q hq)⟩
/-- what came in lies in old memory -/
theorem BatOk.old {w : World} {X : BatchD} (h : BatOk w X) : BatIn (fun g => g < w.heap.size) X := by
  refine ⟨fun h0 q hq => ?_, fun h0 q hq => ?_, fun i hi h0 q hq => ?_⟩
  · obtain ⟨b, o, e, _, hc, _⟩ := h.1.2.2.2 0 h0
    rw [hq] at e; cases e
    exact cell_lt (hc 0 (by simp [pairCs]))
  · obtain ⟨b, o, e, _, hc, _⟩ := h.2.2.2.2 0 h0
    rw [hq] at e; cases e
    exact cell_lt (hc 0 (by simp [strCs]))
  · obtain ⟨b, o, e, _, _, hok⟩ := h.1.2.2.2 i hi
    exact hok.2.1.there q hq h0
/-- one put's cells, where its value lies; one delete's -/
theorem BatOk.put {w w' : World} {X : BatchD} {Y N : Nat → Prop} (h : BatOk w X) (hn : BatIn N X) (hk : Keep Y w w') (hy : ∀ g, N g → ¬ Y g) {i : Nat} (hi : i < X.puts.n) :
    ∃ b o, X.puts.a = some ⟨b, o, none⟩ ∧ w'.cell? ⟨b, o + i * 2, none⟩ = some (.string (X.puts.x i).key) ∧ w'.cell? ⟨b, o + i * 2 + 1, none⟩ = some (X.puts.x i).val.cell ∧ (X.puts.x i).key.size ≤ MB ∧
      Lib.BytesIn w' (X.puts.x i).val.a (X.puts.x i).val.z.length (X.puts.x i).val.z ∧ (X.puts.x i).val.z.length ≤ MB := by
  obtain ⟨b, o, e, _, hc, hok⟩ := h.1.2.2.2 i hi
  have hb : ¬ Y b := hy _ (hn.1 (by omega) _ e)
  have c0 := hc 0 (by simp [pairCs])
  have c1 := hc 1 (by simp [pairCs])
  refine ⟨b, o, e, ?_, ?_, hok.1, bytes_keep hok.2.1.bytes hk (fun h0 q hq => hy _ (hn.2.2 i hi h0 q hq)), hok.2.2⟩
  · exact (hk.cell (p := ⟨b, o + i * 2, none⟩) (cell_lt c0) hb).trans c0
  · exact (hk.cell (p := ⟨b, o + i * 2 + 1, none⟩) (cell_lt c1) hb).trans c1
theorem BatOk.del {w w' : World} {X : BatchD} {Y N : Nat → Prop} (h : BatOk w X) (hn : BatIn N X) (hk : Keep Y w w') (hy : ∀ g, N g → ¬ Y g) {i : Nat} (hi : i < X.dels.n) :
    ∃ b o, X.dels.a = some ⟨b, o, none⟩ ∧ w'.cell? ⟨b, o + i, none⟩ = some (.string (X.dels.x i)) ∧ (X.dels.x i).size ≤ MB := by
  obtain ⟨b, o, e, _, hc, hok⟩ := h.2.2.2.2 i hi
  have hb : ¬ Y b := hy _ (hn.2.1 (by omega) _ e)
  have c0 := hc 0 (by simp [strCs])
  rw [Nat.mul_one] at c0
  exact ⟨b, o, e, (hk.cell (p := ⟨b, o + i, none⟩) (cell_lt c0) hb).trans c0, hok⟩
/-- the contents behind k puts; behind all of them and k deletes -/
def do1 (l : KV) (X : BatchD) (k : Nat) : KV := ((List.range k).map (putX X)).foldl (fun l p => putK l p.1 p.2) l
def do2 (l : KV) (X : BatchD) (k : Nat) : KV := ((List.range k).map (delX X)).foldl delK (do1 l X X.puts.n)
theorem do1_succ (l : KV) (X : BatchD) (k : Nat) : do1 l X (k + 1) = putK (do1 l X k) (bsK (X.puts.x k).key) (X.puts.x k).val.z := by unfold do1; rw [List.range_succ, List.map_append, List.foldl_append]; rfl
theorem do2_succ (l : KV) (X : BatchD) (k : Nat) : do2 l X (k + 1) = delK (do2 l X k) (bsK (X.dels.x k)) := by unfold do2; rw [List.range_succ, List.map_append, List.foldl_append]; rfl
theorem do2_all (l : KV) (X : BatchD) : do2 l X X.dels.n = doK l (batX X) := rfl
theorem do1_srt {l : KV} (h : Srt l) (X : BatchD) (k : Nat) : Srt (do1 l X k) := by
  induction k with
  | zero => exact h
  | succ k ih => rw [do1_succ]; exact ih.put _ _
theorem do2_srt {l : KV} (h : Srt l) (X : BatchD) (k : Nat) : Srt (do2 l X k) := by
  induction k with
  | zero => exact do1_srt h X _
  | succ k ih => rw [do2_succ]; exact ih.del _
theorem do1_len {l : KV} (h : Srt l) (X : BatchD) (k : Nat) : (do1 l X k).length ≤ l.length + k := by
  induction k with
  | zero => exact Nat.le_refl _
  | succ k ih => rw [do1_succ]; have := putK_le (do1_srt h X k) (bsK (X.puts.x k).key) (X.puts.x k).val.z; omega
theorem do2_len {l : KV} (h : Srt l) (X : BatchD) (k : Nat) : (do2 l X k).length ≤ l.length + X.puts.n := by
  induction k with
  | zero => exact do1_len h X _
  | succ k ih => rw [do2_succ]; have := delK_le (l := do2 l X k) (bsK (X.dels.x k)); omega
theorem doK_len {l : KV} (h : Srt l) (X : BatchD) : (doK l (batX X)).length ≤ l.length + X.puts.n := by rw [← do2_all]; exact do2_len h X _
/-- what 'do' does -/
def DoPost (j b : Nat) (tv hv : Value) (n : Nat) (l : KV) (N : Nat → Prop) (X : BatchD) (w : World) (w' : World) : Prop :=
  Keep (fun k => k = j ∨ k = b) w w' ∧ Blk w' j #[tv, .map (some b), .int .i64 ((n + 1 : Nat) : Int), hv] 74 ∧ JMap (fun g => N g ∨ w.heap.size ≤ g) w' b (doK l (batX X))
set_option maxHeartbeats 12800000 in
theorem pdo (j b : Nat) (tv hv : Value) (n : Nat) (l : KV) (N : Nat → Prop) (X : BatchD) (w : World) (hB : Blk w j #[tv, .map (some b), .int .i64 (n : Int), hv] 74) (hM : JMap N w b l) (hs : Srt l) (hl : l.length + X.puts.n ≤ 140737488351232) (hn : n < 4611686018427387904)
    (hN : ∀ g, N g → g ≠ j ∧ g ≠ b) (hjb : j ≠ b) (hX : BatOk w X) (hXN : BatIn (fun g => g ≠ j ∧ g ≠ b) X) :
    Calls Tryz.prog 36 #[.pointer (some ⟨j, 0, none⟩), .agg #[.slice X.puts.a X.puts.n X.puts.c, .slice X.dels.a X.dels.n X.dels.c]] w fun e w' => e = .returned (.tuple #[]) ∧ DoPost j b tv hv n l N X w w' := by
  have hjl : j < w.heap.size := hB.lt
  have hbl : b < w.heap.size := hM.lt
  have hpn : X.puts.n ≤ 140737488351232 := hX.1.2.1.1
  have hdn : X.dels.n ≤ 140737488351232 := hX.2.2.1.1
  have k0 := (Keep.refl (fun _ => False) w).alloc (.cells #[.slice X.puts.a X.puts.n X.puts.c, .slice X.dels.a X.dels.n X.dels.c] 41)
  have bn := Blk.new w #[.slice X.puts.a X.puts.n X.puts.c, .slice X.dels.a X.dels.n X.dels.c] 41
  have c0 := bn.cell 0
  have c1 := bn.cell 1
  have HW := Lib.hid (And.intro hB (And.intro hM (And.intro hs (And.intro hl (And.intro hn (And.intro hN (And.intro hjb (And.intro hX (And.intro hXN (And.intro k0 bn))))))))))
  obtain ⟨pn, hpn'⟩ : ∃ pn, pn = X.puts.n := ⟨_, rfl⟩
  obtain ⟨dn, hdn'⟩ : ∃ dn, dn = X.dels.n := ⟨_, rfl⟩
  obtain ⟨pa, hpa⟩ : ∃ pa, pa = X.puts.a := ⟨_, rfl⟩
  obtain ⟨da, hda⟩ : ∃ da, da = X.dels.a := ⟨_, rfl⟩
  rw [← hpn', ← hdn', ← hpa, ← hda] at bn c0 c1 ⊢
  rw [← hpn'] at hpn hl
  rw [← hdn'] at hdn
  have HN := Lib.hid (And.intro hpn' (And.intro hdn' (And.intro hpa hda)))
  clear hB hM hs hl hn hN hjb hX hXN k0 bn hpn' hdn' hpa hda
  generalize X.puts.c = pc at *
  generalize X.dels.c = dc at *
  go_enter Tryz.func36, Tryz.ntmps36
  go_upto_region 1 with fail
  generalize hWd : w.alloc (.cells #[.slice pa pn pc, .slice da dn dc] 41) = W at *
  have hW0 : Keep (fun _ => False) w W := by rw [← hWd]; exact (Keep.refl (fun _ => False) w).alloc _
  have hWs : W.heap.size = w.heap.size + 1 := by rw [← hWd]; simp
  have bW : Blk W w.heap.size #[.slice pa pn pc, .slice da dn dc] 41 := by rw [← hWd]; exact Blk.new w _ _
  have hXW : ∀ wx, Keep (fun k => k = b) W wx → Keep (fun k => k = j ∨ k = b) w wx := fun wx hk => (hW0.mono (Y := fun k => k = j ∨ k = b) (fun _ h => h.elim)).trans (hk.mono fun k e => .inr e)
  have HXW := Lib.hid (And.intro hXW (And.intro hW0 (And.intro hWs bW)))
  clear hWd hW0 hWs hXW bW
  generalize hgw : w.heap.size = g at *
  have hM0 : JMap (fun k => N k ∨ g ≤ k) W b (do1 l X 0) := (HW.out.2.1.keep HXW.out.2.1 (fun h => h) (fun _ _ _ h => h)).mono (fun k h _ => .inl h)
  have HM0 := Lib.hid hM0
  have hN' : ∀ k, (N k ∨ g ≤ k) → k ≠ b := fun k h => h.elim (fun h => (HW.out.2.2.2.2.2.1 k h).2) (fun h => by omega)
  have HNN := Lib.hid hN'
  clear hM0 hN'
  go_wp2
  go_loopg [11] pn (fun gh i wx => ∃ k : Nat, k ≤ pn ∧ i = .int .i64 (k : Int) ∧ gh = pn - k ∧ Hid (JMap (fun k => N k ∨ g ≤ k) wx b (do1 l X k) ∧ Keep (fun k => k = b) W wx))
  case atStart => exact ⟨0, Nat.zero_le _, rfl, rfl, HM0.out, Keep.refl _ _⟩
  case round =>
    obtain ⟨k, hk, rfl, hg, HK⟩ := hrel
    have HG := Lib.hid hg
    clear hg c1
    have bJ := HK.out.2.blk (HXW.out.2.1.blk HW.out.1 (fun h => h)) (show ¬ j = b from HW.out.2.2.2.2.2.2.1)
    by_cases hlt : k < pn
    · obtain ⟨bb, off, ha, t0, t1, hks, hby, hvl⟩ := BatOk.put HW.out.2.2.2.2.2.2.2.1 HW.out.2.2.2.2.2.2.2.2.1 (HXW.out.1 _ HK.out.2) (fun k h e => e.elim h.1 h.2) (i := k) (by rw [← HN.out.1]; exact hlt)
      have hd := do1_succ l X k
      rw [← HN.out.2.2.1] at ha
      subst ha
      generalize X.puts.x k = xp at *
      obtain ⟨key, ⟨va, vc, vz⟩⟩ := xp
      change wr.cell? ⟨bb, off + k * 2 + 1, none⟩ = some (.slice va vz.length vc) at t1
      have hks : key.size ≤ 140737488351232 := hks
      have hvl : vz.length ≤ 140737488351232 := hvl
      have hby : Lib.BytesIn wr va vz.length vz := hby
      have t0 : wr.cell? ⟨bb, off + k * 2, none⟩ = some (.string key) := t0
      have bx := Blk.new wr #[.string key, .slice va vz.length vc] 58
      have kx := (Keep.refl (fun _ => False) wr).alloc (.cells #[.string key, .slice va vz.length vc] 58)
      obtain ⟨z, hz⟩ : ∃ z, z = vz.length := ⟨_, rfl⟩
      rw [← hz] at t1 bx kx hvl
      have HZ := Lib.hid hz
      have HH := Lib.hid (And.intro hd (And.intro hby (And.intro kx (And.intro bx bJ))))
      clear hd hby kx bx bJ hz
      go_upto_region 4 with fail
      clear t0 t1
      generalize wr.alloc (.cells #[.string key, .slice va z vc] 58) = w4 at *
      generalize hgx : wr.heap.size = gx at *
      have PC := clone_arg va vc vz w4.drew (bytes_keep (bytes_keep HH.out.2.1 HH.out.2.2.1 (fun _ _ _ h => h)) ((Keep.refl (fun _ => False) w4).drew) (fun _ _ _ h => h)) (by rw [← HZ.out]; omega)
      rw [← HZ.out] at PC
      have PC := Lib.hid PC
      have cj : w4.drew.cell? ⟨j, 1, none⟩ = some (.map (some b)) := (HH.out.2.2.1.blk HH.out.2.2.2.2 (fun h => h)).cell 1
      have cx0 : w4.drew.cell? ⟨gx, 0, none⟩ = some (.string key) := HH.out.2.2.2.1.cell 0
      have cx1 : w4.drew.cell? ⟨gx, 1, none⟩ = some (.slice va z vc) := HH.out.2.2.2.1.cell 1
      have hjw : j < w4.drew.heap.size := (HH.out.2.2.1.blk HH.out.2.2.2.2 (fun h => h)).lt
      have hgxw : gx < w4.drew.heap.size := HH.out.2.2.2.1.lt
      have HLT := Lib.hid (And.intro hjw hgxw)
      clear hjw hgxw
      go_upto_region 4 with fail
      refine wp_region_last 9 (fun w' => w'.cell? ⟨j, 1, none⟩ = some (.map (some b)) ∧ w'.cell? ⟨gx, 0, none⟩ = some (.string key) ∧ w'.cell? ⟨gx, 1, none⟩ = some (.slice va z vc)) (by kernel_rfl) ⟨cj, cx0, cx1⟩ (fun hS => ?_)
      refine tkL 0 (v := ?_) rfl (by kernel_rfl) ⟨by rfl, ?_⟩ hS ?_
      rotate_left
      · intro w0 hs; obtain ⟨s1, s2, s3⟩ := hs; go_simp; try (with_reducible rfl)
      try simp only [Act.put, List.setIfInBounds_toArray, List.set_cons_zero, List.set_cons_succ]
      refine tkL 1 (v := ?_) rfl (by kernel_rfl) ⟨by rfl, ?_⟩ hS ?_
      rotate_left
      · intro w0 hs; obtain ⟨s1, s2, s3⟩ := hs; go_simp; try (with_reducible rfl)
      try simp only [Act.put, List.setIfInBounds_toArray, List.set_cons_zero, List.set_cons_succ]
      refine tkL 2 (v := ?_) rfl (by kernel_rfl) ⟨by rfl, ?_⟩ hS ?_
      rotate_left
      · intro w0 hs; obtain ⟨s1, s2, s3⟩ := hs; go_simp; try (with_reducible rfl)
      try simp only [Act.put, List.setIfInBounds_toArray, List.set_cons_zero, List.set_cons_succ]
      refine tkL 3 (v := ?_) rfl (by kernel_rfl) ⟨by rfl, ?_⟩ hS ?_
      rotate_left
      · intro w0 hs; obtain ⟨s1, s2, s3⟩ := hs; go_simp; try (with_reducible rfl)
      try simp only [Act.put, List.setIfInBounds_toArray, List.set_cons_zero, List.set_cons_succ]
      refine tkL 4 (v := ?_) rfl (by kernel_rfl) ⟨by rfl, ?_⟩ hS ?_
      rotate_left
      · intro w0 hs; obtain ⟨s1, s2, s3⟩ := hs; go_simp; try (with_reducible rfl)
      try simp only [Act.put, List.setIfInBounds_toArray, List.set_cons_zero, List.set_cons_succ]
      refine tkL 5 (v := ?_) rfl (by kernel_rfl) ⟨by rfl, ?_⟩ hS ?_
      rotate_left
      · intro w0 hs; obtain ⟨s1, s2, s3⟩ := hs; go_simp; try (with_reducible rfl)
      try simp only [Act.put, List.setIfInBounds_toArray, List.set_cons_zero, List.set_cons_succ]
      refine tkL 6 (v := ?_) rfl (by kernel_rfl) ⟨by rfl, ?_⟩ hS ?_
      rotate_left
      · intro w0 hs; obtain ⟨s1, s2, s3⟩ := hs; go_simp; try (with_reducible rfl)
      try simp only [Act.put, List.setIfInBounds_toArray, List.set_cons_zero, List.set_cons_succ]
      refine tkL 7 (v := ?_) rfl (by kernel_rfl) ⟨by rfl, ?_⟩ hS ?_
      rotate_left
      · intro w0 hs; obtain ⟨s1, s2, s3⟩ := hs; go_simp; try (with_reducible rfl)
      try simp only [Act.put, List.setIfInBounds_toArray, List.set_cons_zero, List.set_cons_succ]
      refine wpAnyL_one (i := 8) (oi := ⟨_, _, _, _, _, _⟩) rfl (by kernel_rfl) (fun K hK => ?_)
      rw [if_pos (by rfl)]
      go_step
      refine PC.out.mono ?_
      rintro e w5 ⟨q5, c5, o5, rfl, R5, ho5, hb5⟩
      simp only []
      have hS' := (And.intro ((hb5.cell (p := ⟨j, 1, none⟩) HLT.out.1).trans hS.1) (And.intro ((hb5.cell (p := ⟨gx, 0, none⟩) HLT.out.2).trans hS.2.1) ((hb5.cell (p := ⟨gx, 1, none⟩) HLT.out.2).trans hS.2.2)))
      refine hK.out _ _ (.inr hS') ?_
      clear hS hK
      have hS := hS'; clear hS'
      try simp only [Act.put, List.setIfInBounds_toArray, List.set_cons_zero, List.set_cons_succ]
      refine wpAnyL_one (i := 9) (oi := ⟨_, _, _, _, _, _⟩) rfl (by kernel_rfl) (fun K hK => ?_)
      rw [if_pos (by rfl)]
      have hgw4 : g + 1 ≤ wr.heap.size := by have := HK.out.2.size; have := HXW.out.2.2.1; omega
      have h4 : wr.heap.size ≤ w4.heap.size := HH.out.2.2.1.size
      have hd4 : w4.drew.heap.size = w4.heap.size := rfl
      have kk5 : Keep (fun _ => False) wr w5 := (HH.out.2.2.1.drew).trans (Keep.of_below hb5)
      have M5 := HK.out.1.keep kk5 (fun h => h) (fun _ _ _ h => h)
      obtain ⟨w6, run6, M6, k6⟩ := M5.store (do1_srt HW.out.2.2.1 X k) (by have := do1_len HW.out.2.2.1 X k; have := HW.out.2.2.2.1; have := HN.out.1; omega) key hks R5 (fun k hk => .inr (by have := ho5 k hk; omega)) HNN.out
      rw [← HH.out.1] at M6
      have H6 := Lib.hid (And.intro M6 (((HK.out.2.trans (kk5.mono (fun _ h => h.elim))).trans k6) : Keep (fun k => k = b) W w6))
      clear M6 k6 M5 kk5 h4 hd4 R5 ho5 hb5
      go_simp
      refine hK.out _ _ (.inl rfl) ?_
      clear hK
      try simp only [Act.put, List.setIfInBounds_toArray, List.set_cons_zero, List.set_cons_succ]
      refine wpAnyL_done (by kernel_rfl) ?_ _
      clear HH PC cj cx0 cx1 HLT hS run6
      go_wp2
      go_roundg (pn - (k + 1))
      case measure => rw [HG.out]; omega
      case rel => exact ⟨k + 1, hlt, by go_num, rfl, H6.out⟩
    · obtain rfl : k = pn := by omega
      have hM1 : JMap (fun k => N k ∨ g ≤ k) wr b (do2 l X 0) := by have h := HK.out.1; rw [HN.out.1] at h; exact h
      have HM1 := Lib.hid hM1
      have c1' : wr.cell? ⟨g, 1, none⟩ = some (.slice da dn dc) := (HK.out.2.blk HXW.out.2.2.2 (by omega)).cell 1
      clear hM1
      go_wp2
      go_loopg [28] dn (fun gh i wx => ∃ k : Nat, k ≤ dn ∧ i = .int .i64 (k : Int) ∧ gh = dn - k ∧ Hid (JMap (fun k => N k ∨ g ≤ k) wx b (do2 l X k) ∧ Keep (fun k => k = b) W wx))
      case atStart => exact ⟨0, Nat.zero_le _, rfl, rfl, HM1.out, HK.out.2⟩
      case round =>
        clear HK HG bJ hlt
        obtain ⟨k, hk, rfl, hg, HK⟩ := hrel
        have HG := Lib.hid hg
        clear hg c1'
        have bJ := HK.out.2.blk (HXW.out.2.1.blk HW.out.1 (fun h => h)) (show ¬ j = b from HW.out.2.2.2.2.2.2.1)
        have cj1 := bJ.cell 1
        have cj2 := bJ.cell 2
        have fj2 := bJ.free 2
        have HBJ := Lib.hid bJ
        clear bJ
        by_cases hlt : k < dn
        · obtain ⟨bb, off, ha, t0, hks⟩ := BatOk.del HW.out.2.2.2.2.2.2.2.1 HW.out.2.2.2.2.2.2.2.2.1 (HXW.out.1 _ HK.out.2) (fun k h e => e.elim h.1 h.2) (i := k) (by rw [← HN.out.2.1]; exact hlt)
          have hd := do2_succ l X k
          rw [← HN.out.2.2.2] at ha
          subst ha
          generalize X.dels.x k = key at *
          have hks : key.size ≤ 140737488351232 := hks
          obtain ⟨w6, run6, M6, k6⟩ := HK.out.1.drop (do2_srt HW.out.2.2.1 X k) key hks HNN.out 0
          rw [← hd] at M6
          have H6 := Lib.hid (And.intro M6 (HK.out.2.trans k6))
          clear M6 k6 hd
          go_wp2
          go_roundg (dn - (k + 1))
          case measure => rw [HG.out]; omega
          case rel => exact ⟨k + 1, hlt, by go_num, rfl, H6.out⟩
        · obtain rfl : k = dn := by omega
          have b8 : Blk (wr.setCell ⟨j, 2, none⟩ (.int .i64 ((n + 1 : Nat) : Int))) j #[tv, .map (some b), .int .i64 ((n + 1 : Nat) : Int), hv] 74 := HBJ.out.set 2 _
          have k8 : Keep (fun k => k = j) wr (wr.setCell ⟨j, 2, none⟩ (.int .i64 ((n + 1 : Nat) : Int))) := Keep.set (X := fun k => k = j) (Keep.refl _ wr) (p := ⟨j, 2, none⟩) (.inl rfl) _
          have M8 := (HK.out.1.keep k8 (fun e => HW.out.2.2.2.2.2.2.1 e.symm) (fun x h _ e => h.elim (fun h => (HW.out.2.2.2.2.2.1 x h).1 e) (fun h => by omega)))
          have kk8 : Keep (fun k => k = j ∨ k = b) w (wr.setCell ⟨j, 2, none⟩ (.int .i64 ((n + 1 : Nat) : Int))) := (HXW.out.1 _ HK.out.2).trans (k8.mono fun k e => .inl e)
          rw [HN.out.2.1] at M8
          have H8 := Lib.hid (And.intro kk8 (And.intro b8 M8))
          have hn1 : IntKind.i64.wrap ((n : Int) + 1) = ((n + 1 : Nat) : Int) := by rw [IntWalk.i64_in _ (by have := HW.out.2.2.2.2.1; omega)]; omega
          clear b8 k8 M8 kk8
          go_wp2
          go_end0
          exact ⟨rfl, H8.out.1, H8.out.2.1, by rw [← do2_all, hgw]; exact H8.out.2.2⟩
end Go.Proofs.YtbjbjgfjaopibaaGreatDoor
end

section
/- The journal's questions: none, Get, Batches, Halted. -/
namespace Go.Proofs.YtbjbjgfjaopibaaGreatDoor
open Go Go.RowKit
set_option linter.unusedSimpArgs false
set_option linter.unusedVariables false
set_option maxRecDepth 100000

theorem jnone (j : Nat) (t : Addr) (w : World) (h : w.cell? ⟨j, 0, none⟩ = some (.pointer (some t))) : Calls Tryz.prog 41 #[.pointer (some ⟨j, 0, none⟩)] w fun e w' => e = .returned (.bool false) ∧ w' = w := by
  go_enter Tryz.func41, Tryz.ntmps41
  go_wp2
  go_ret
  exact ⟨rfl, rfl⟩
theorem jbatches (j : Nat) (t : Addr) (mv hv : Value) (n : Int) (w : World) (h : Blk w j #[.pointer (some t), mv, .int .i64 n, hv] 74) : Calls Tryz.prog 32 #[.pointer (some ⟨j, 0, none⟩)] w fun e w' => e = .returned (.int .i64 n) ∧ w' = w := by
  have PN := Lib.hid (jnone j t w (h.cell 0))
  have c2 : w.cell? ⟨j, 2, none⟩ = some (.int .i64 n) := h.cell 2
  go_enter Tryz.func32, Tryz.ntmps32
  go_wp2_with (refine PN.out.mono ?_; rintro e w' ⟨rfl, rfl⟩)
  go_ret
  exact ⟨rfl, rfl⟩
theorem jhalted (j : Nat) (t : Addr) (mv nv : Value) (b : Bool) (w : World) (h : Blk w j #[.pointer (some t), mv, nv, .bool b] 74) : Calls Tryz.prog 33 #[.pointer (some ⟨j, 0, none⟩)] w fun e w' => e = .returned (.bool b) ∧ w' = w := by
  have PN := Lib.hid (jnone j t w (h.cell 0))
  have c3 : w.cell? ⟨j, 3, none⟩ = some (.bool b) := h.cell 3
  go_enter Tryz.func33, Tryz.ntmps33
  go_wp2_with (refine PN.out.mono ?_; rintro e w' ⟨rfl, rfl⟩)
  go_ret
  exact ⟨rfl, rfl⟩
set_option maxHeartbeats 1600000 in
theorem jget (j b : Nat) (t : Addr) (nv hv : Value) (l : KV) (N : Nat → Prop) (s : ByteArray) (w : World) (h : Blk w j #[.pointer (some t), .map (some b), nv, hv] 74) (hM : JMap N w b l) (hs : s.size ≤ 140737488351232) (hl : ((getK l (bsK s)).getD []).length ≤ 140737488351232) :
    Calls Tryz.prog 28 #[.pointer (some ⟨j, 0, none⟩), .string s] w fun e w' => ∃ q c o, e = .returned (.tuple #[.slice q ((getK l (bsK s)).getD []).length c, .bool (getK l (bsK s)).isSome]) ∧ Row w' 5 (.slice q ((getK l (bsK s)).getD []).length c) ((getK l (bsK s)).getD []) o ∧ (∀ g, o = some g → w.heap.size ≤ g) ∧ Below w.heap.size w w' := by
  have PN := Lib.hid (jnone j t w (h.cell 0))
  have c1 : w.cell? ⟨j, 1, none⟩ = some (.map (some b)) := h.cell 1
  obtain ⟨v, o, run1, R, ho⟩ := hM.look s hs
  have PC := clone_row v ((getK l (bsK s)).getD []) o w R (by omega)
  generalize (getK l (bsK s)).getD [] = z at *
  generalize (getK l (bsK s)).isSome = is at *
  have PC := Lib.hid PC
  clear hM R h hl
  go_enter Tryz.func28, Tryz.ntmps28
  go_wp2_with (first | (refine PN.out.mono ?_; rintro e w' ⟨rfl, rfl⟩) | fail)
  refine PC.out.mono ?_
  rintro e w1 ⟨q, c, o', rfl, R1, ho1, hb1⟩
  obtain ⟨zl, hzl⟩ : ∃ zl, zl = z.length := ⟨_, rfl⟩
  have HF := Lib.hid (And.intro R1 (And.intro ho1 (And.intro hb1 hzl)))
  rw [← hzl]
  clear R1 ho1 hb1 hzl
  go_wp2
  exact bodyPost_ret (results_tmp2 Tryz.results28 _ _ _) rfl ⟨q, c, o', by rw [← HF.out.2.2.2]; rfl, HF.out.1, HF.out.2.1, HF.out.2.2.1⟩
end Go.Proofs.YtbjbjgfjaopibaaGreatDoor
end

section
/- The journal in memory; batches out of lists that were read. -/
namespace Go.Proofs.YtbjbjgfjaopibaaGreatDoor
open Go Go.RowKit Go.ChangeShapes Go.WideShapes Go.ChangeAt
set_option linter.unusedSimpArgs false
set_option linter.unusedVariables false
set_option maxRecDepth 100000

theorem Glob.keepX {X : Nat → Prop} {B : Nat} {w w' : World} (g : Glob w) (hk : Keep X w w') (hB : 0 < B ∧ 1 < B) (hx : ∀ k, X k → B ≤ k) : Glob w' :=
  ⟨fun i hi => (hk.cell (p := ⟨0, i, none⟩) (cell_lt (g.1 i hi)) (fun e => by have := hx _ e; simp only at this; omega)).trans (g.1 i hi), fun i hi => (hk.cell (p := ⟨1, i, none⟩) (cell_lt (g.2 i hi)) (fun e => by have := hx _ e; simp only at this; omega)).trans (g.2 i hi)⟩
theorem Glob.lt {w : World} (g : Glob w) : 0 < w.heap.size ∧ 1 < w.heap.size := ⟨cell_lt (g.1 0 (by decide)), cell_lt (g.2 0 (by decide))⟩
/-- a batch, of lists -/
def batL (pq : Option Addr) (pn : Nat) (X : List PairD) (dq : Option Addr) (dn : Nat) (Y : List ByteArray) : BatchD := ⟨⟨pq, X.length, pn, fun i => X.getD i ⟨⟨#[]⟩, ⟨none, 0, []⟩⟩⟩, ⟨dq, Y.length, dn, fun i => Y.getD i ⟨#[]⟩⟩⟩
theorem batL_x (pq : Option Addr) (pn : Nat) (X : List PairD) (dq : Option Addr) (dn : Nat) (Y : List ByteArray) : batX (batL pq pn X dq dn Y) = ⟨X.map pairX, Y.map bsK⟩ := by
  unfold batX batL
  simp only [BatD.mk.injEq]
  constructor
  · refine List.ext_getElem (by simp) fun i h1 h2 => ?_
    simp at h2
    simp [List.getD_eq_getElem?_getD, h2, pairX]
  · refine List.ext_getElem (by simp) fun i h1 h2 => ?_
    simp at h2
    simp [List.getD_eq_getElem?_getD, h2]
theorem batL_ok {w : World} {G : Nat} {pq dq : Option Addr} {pn dn : Nat} {X : List PairD} {Y : List ByteArray} (hp : LstAt pairK 58 w G (.slice pq X.length pn) X) (hd : LstAt strK 9 w G (.slice dq Y.length dn) Y) (hx : X.length ≤ 20000) (hy : Y.length ≤ 20000) :
    BatOk w (batL pq pn X dq dn Y) ∧ BatIn (fun g => G ≤ g ∧ g < w.heap.size) (batL pq pn X dq dn Y) := by
  obtain ⟨o1, a1, a2, a3⟩ := hp
  obtain ⟨o2, b1, b2, b3⟩ := hd
  obtain ⟨_, _, e1, l1, m1, f1⟩ := a1.form
  cases e1
  obtain ⟨_, _, e2, l2, m2, f2⟩ := b1.form
  cases e2
  have m1 : pn ≤ 9223372036854775807 := by unfold maxLen at m1; omega
  have m2 : dn ≤ 9223372036854775807 := by unfold maxLen at m2; omega
  have hX : ∀ i, i < X.length → X.getD i ⟨⟨#[]⟩, ⟨none, 0, []⟩⟩ ∈ X := fun i hi => by rw [List.getD_eq_getElem?_getD, List.getElem?_eq_getElem hi]; exact List.getElem_mem hi
  refine ⟨⟨⟨l1, ⟨by show X.length ≤ 140737488351232; omega, m1⟩, fun e => ?_, fun i hi => ?_⟩, ⟨l2, ⟨by show Y.length ≤ 140737488351232; omega, m2⟩, fun e => ?_, fun i hi => ?_⟩⟩, ⟨fun h0 q hq => ?_, fun h0 q hq => ?_, fun i hi h0 q hq => ?_⟩⟩
  · rcases f1 with ⟨_, _, h, _⟩ | ⟨g, _, h, _⟩
    · exact h
    · have e' : pq = none := e
      rw [e'] at h; cases h
  · have hi' : i < X.length := hi
    obtain ⟨g, cap, ho, hv, _, _, hg, hc, _⟩ := a1.mem (by omega)
    cases hv
    have hat := a3 _ (hX i hi')
    refine ⟨g, 0, rfl, by rfl, fun u hu => ?_, hat.1, hat.2.1⟩
    have hu2 : u < 2 := hu
    have e3 := flat_get pairK X i u hi' hu2
    have e4 := hc (i * 2 + u) (by show i * 2 + u < X.length * 2; omega)
    rw [Nat.zero_add, e4]
    show (X.flatMap pairK.cs)[i * pairK.k + u]? = _
    rw [e3]
    show (pairCs X[i])[u]? = (pairCs (X.getD i ⟨⟨#[]⟩, ⟨none, 0, []⟩⟩))[u]?
    rw [List.getD_eq_getElem?_getD, List.getElem?_eq_getElem hi']
    rfl
  · rcases f2 with ⟨_, _, h, _⟩ | ⟨g, _, h, _⟩
    · exact h
    · have e' : dq = none := e
      rw [e'] at h; cases h
  · have hi' : i < Y.length := hi
    obtain ⟨g, cap, ho, hv, _, _, hg, hc, _⟩ := b1.mem (by omega)
    cases hv
    have hat := b3 (Y.getD i ⟨#[]⟩) (by rw [List.getD_eq_getElem?_getD, List.getElem?_eq_getElem hi']; exact List.getElem_mem hi')
    refine ⟨g, 0, rfl, by rfl, fun u hu => ?_, hat⟩
    have hu2 : u < 1 := hu
    have e3 := flat_get strK Y i u hi' hu2
    have e4 := hc (i * 1 + u) (by show i * 1 + u < Y.length * 1; omega)
    rw [Nat.zero_add, e4]
    show (Y.flatMap strK.cs)[i * strK.k + u]? = _
    rw [e3]
    show (strCs Y[i])[u]? = (strCs (Y.getD i ⟨#[]⟩))[u]?
    rw [List.getD_eq_getElem?_getD, List.getElem?_eq_getElem hi']
    rfl
  · have h0' : 0 < X.length := h0
    obtain ⟨g, cap, ho, hv, _, _, hg, hc, _⟩ := a1.mem (by omega)
    cases hv
    have hq' : (some ⟨g, 0, none⟩ : Option Addr) = some q := hq
    cases hq'
    exact ⟨a2 _ ho, hg⟩
  · have h0' : 0 < Y.length := h0
    obtain ⟨g, cap, ho, hv, _, _, hg, hc, _⟩ := b1.mem (by omega)
    cases hv
    have hq' : (some ⟨g, 0, none⟩ : Option Addr) = some q := hq
    cases hq'
    exact ⟨b2 _ ho, hg⟩
  · have hat := a3 _ (hX i hi)
    exact ⟨(hat.2.2 q hq).1, (hat.2.2 q hq).2.1⟩
/-- a journal in memory: its block, its map's, its tape's; N: where its rows may lie -/
def JAt (N : Nat → Prop) (w : World) (j b p : Nat) (l : KV) (n : Nat) (hd : Bool) : Prop :=
  Blk w j #[.pointer (some ⟨p, 0, none⟩), .map (some b), .int .i64 (n : Int), .bool hd] 74 ∧ JMap N w b l ∧ j ≠ b ∧ ∀ g, N g → g ≠ j ∧ g ≠ b
section
variable {N X : Nat → Prop} {w w' : World} {j b p : Nat} {l : KV} {n : Nat} {hd : Bool}
theorem JAt.keep (h : JAt N w j b p l n hd) (hk : Keep X w w') (hj : ¬ X j) (hb : ¬ X b) (hn : ∀ g, N g → g < w.heap.size → ¬ X g) : JAt N w' j b p l n hd := ⟨hk.blk h.1 hj, h.2.1.keep hk hb hn, h.2.2.1, h.2.2.2⟩
theorem JAt.more (h : JAt N w j b p l n hd) (hb : Below w.heap.size w w') : JAt N w' j b p l n hd := h.keep (Keep.of_below (X := fun _ => False) hb) (fun h => h) (fun h => h) (fun _ _ _ h => h)
theorem JAt.mono {M : Nat → Prop} (h : JAt N w j b p l n hd) (hm : ∀ g, N g → g < w.heap.size → M g) (hM : ∀ g, M g → g ≠ j ∧ g ≠ b) : JAt M w j b p l n hd := ⟨h.1, h.2.1.mono hm, h.2.2.1, hM⟩
theorem JAt.lt (h : JAt N w j b p l n hd) : j < w.heap.size ∧ b < w.heap.size := ⟨h.1.lt, h.2.1.lt⟩
end
/-- how many keys -/
theorem doK_le {l : KV} (h : Srt l) (x : BatD) : (doK l x).length ≤ l.length + x.puts.length := by
  have h1 : ∀ (ps : List (Key × List Int)) (l : KV), Srt l → (ps.foldl (fun l p => putK l p.1 p.2) l).length ≤ l.length + ps.length := fun ps => by
    induction ps with
    | nil => exact fun l _ => Nat.le_refl _
    | cons p t ih => exact fun l h => by have := ih _ (h.put p.1 p.2); have := putK_le h p.1 p.2; rw [List.foldl_cons, List.length_cons]; omega
  have h2 : ∀ (ks : List Key) (l : KV), (ks.foldl delK l).length ≤ l.length := fun ks => by
    induction ks with
    | nil => exact fun l => Nat.le_refl _
    | cons k t ih => exact fun l => Nat.le_trans (ih _) (delK_le k)
  exact Nat.le_trans (h2 _ _) (h1 _ _ h)
theorem flat_ge {α : Type} {f : α → List Int} (hf : ∀ x, 1 ≤ (f x).length) : ∀ l : List α, l.length ≤ (l.flatMap f).length
  | [] => Nat.le_refl _
  | x :: t => by rw [List.flatMap_cons, List.length_append, List.length_cons]; have := hf x; have := flat_ge hf t; omega
theorem txtB_pos (z : List Int) : 1 ≤ (txtB z).length := by unfold txtB; rw [List.length_append]; have := (encS_ne z.length).1; omega
theorem puts_le (x : BatD) : x.puts.length ≤ (frmX x).length := by
  have h1 := flat_ge (f := putB) (fun p => by unfold putB; rw [List.length_append]; have := txtB_pos (kb p.1); omega) x.puts
  unfold frmX
  rw [frmB_len]
  unfold batB
  rw [List.length_append, List.length_append]
  omega
theorem doAll_le (xs : List BatD) : ∀ l : KV, Srt l → (doAll l xs).length ≤ l.length + (xs.flatMap frmX).length := by
  induction xs with
  | nil => exact fun l _ => Nat.le_add_right _ _
  | cons x t ih =>
    intro l h
    have h1 := ih _ (h.do x)
    have h2 := doK_le h x
    have h3 := puts_le x
    rw [List.flatMap_cons, List.length_append]
    show (doAll (doK l x) t).length ≤ _
    omega
theorem doAll_snoc (l : KV) (xs : List BatD) (x : BatD) : doAll l (xs ++ [x]) = doK (doAll l xs) x := by unfold doAll; rw [List.foldl_append]; rfl
end Go.Proofs.YtbjbjgfjaopibaaGreatDoor
end
