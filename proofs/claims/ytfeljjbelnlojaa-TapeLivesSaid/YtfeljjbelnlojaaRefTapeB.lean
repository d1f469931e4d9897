/- The document's tape (layer 15): Append, Cut, Crash, Copy, Of. -/
import Derived.Test.YtfeljjbelnlojaaRefTape
namespace Go.Proofs.Ytfeljjbelnlojaa
open Go Go.RowKit
set_option linter.unusedSimpArgs false

/-- append([]byte{}, b..), a run -/
theorem none_append {ys : List Int} {p : Option Addr} {c : Nat} (w : World) (hy : Lib.BytesIn w p ys.length ys) (hb : ys.length ≤ 1099511627776) :
    ∃ q c' w' o', (Builtin.append_ #[28, 28] 28 #[.slice (some ⟨w.heap.size, 0, none⟩) 0 0, .slice p ys.length c]).run Try.prog (w.alloc (.cells #[] 5)) = .ok (.slice q ys.length c') w' ∧ Row w' 5 (.slice q ys.length c') ys o' ∧ (∃ g, o' = some g ∧ w.heap.size ≤ g) ∧ Below w.heap.size w w' := by
  obtain ⟨i0, hi, hz0, hz1, hz2⟩ := info_parts u8info
  have hy' : Lib.BytesIn (w.alloc (.cells #[] 5)) p ys.length ys := bytes_keep (X := fun _ => False) hy ((Keep.refl _ w).alloc _) (fun _ _ _ h => h)
  obtain ⟨v', w3, o', hrun, hrow, ho, hk⟩ := row_append (P := Try.prog) 28 28 i0 (.int .u8 0) Try.underlying28 hi hz0 hz1 hz2 rfl (row_none w) (c := c) hy' (by simpa using hb)
  obtain ⟨q3, c3', rfl, _⟩ := hrow.form
  simp only [List.nil_append] at hrun hrow
  refine ⟨q3, c3', w3, o', hrun, hrow, ?_, ?_⟩
  · rcases ho with h | ⟨g, h, hg⟩
    · exact ⟨_, h, Nat.le_refl _⟩
    · exact ⟨g, h, by simp at hg; omega⟩
  · refine ((Below.refl w.heap.size w).alloc (Nat.le_refl _) _).trans (hk.below (by simp) fun k e => ?_)
    cases e; exact Nat.le_refl _
/-- append onto a row of one's own, a run -/
theorem more_append {xs ys : List Int} {v : Value} {o : Option Nat} {p : Option Addr} {c : Nat} (w : World) (h : Row w 5 v xs o) (hy : Lib.BytesIn w p ys.length ys) (hb : xs.length + ys.length ≤ 1099511627776) :
    ∃ q c' w' o', (Builtin.append_ #[28, 28] 28 #[v, .slice p ys.length c]).run Try.prog w = .ok (.slice q (xs ++ ys).length c') w' ∧ Row w' 5 (.slice q (xs ++ ys).length c') (xs ++ ys) o' ∧ (o' = o ∨ ∃ g, o' = some g ∧ w.heap.size ≤ g) ∧ Keep (fun k => o = some k) w w' := by
  obtain ⟨i0, hi, hz0, hz1, hz2⟩ := info_parts u8info
  obtain ⟨v', w3, o', hrun, hrow, ho, hk⟩ := row_append (P := Try.prog) 28 28 i0 (.int .u8 0) Try.underlying28 hi hz0 hz1 hz2 rfl h (c := c) hy hb
  obtain ⟨q3, c3', rfl, _⟩ := hrow.form
  exact ⟨q3, c3', w3, o', hrun, hrow, ho, hk⟩
set_option maxHeartbeats 1600000 in
theorem rappend (r : Nat) (xs ys : List Int) (sy ro fu : Int) (o : Option Nat) (q : Option Addr) (c : Nat) (w : World) (h : RefAt w r xs sy ro fu o) (hy : Lib.BytesIn w q ys.length ys) (hqx : 0 < ys.length → ∀ a, q = some a → ¬ foot r o a.block)
    (hl : xs.length ≤ 16777216) (hyl : ys.length ≤ 9223372036854775807) (hr0 : 0 ≤ ro) (hr1 : ro ≤ 16777216) (hf0 : -1 ≤ fu) (hf1 : fu ≤ 9223372036854775807) :
    Calls Try.prog 25 #[.pointer (some ⟨r, 0, none⟩), .slice q ys.length c] w fun e w' => e = .returned (.int .i64 (appE xs.length ys.length ro fu)) ∧ (∃ o', RefAt w' r (appB xs ys ro fu) sy ro (burn fu) o' ∧ (o' = o ∨ ∃ g, o' = some g ∧ w.heap.size ≤ g)) ∧ Keep (foot r o) w w' := by
  obtain ⟨v, h1, h2, h3⟩ := h
  have Q := Lib.hid (rburn r v (.int .i64 sy) (.int .i64 ro) fu w h1 hf0 hf1)
  have H2 := Lib.hid h2
  have H3 := Lib.hid h3
  have LT := Lib.hid h1.lt
  have HY := Lib.hid hy
  have HQ := Lib.hid hqx
  clear hy hqx h1 h2 h3
  by_cases hz : fu = 0
  · subst hz
    have HN := Lib.hid (show appB xs ys ro 0 = xs from rfl)
    have HE := Lib.hid (show appE xs.length ys.length ro 0 = 150 from rfl)
    go_enter Try.func25, Try.ntmps25
    go_wp2_with fail
    refine Q.out.mono ?_
    rintro e w1 ⟨rfl, b1, k1⟩
    have r1 := Lib.hid (H2.out.keep k1 (fun g hg e => H3.out (by rw [hg, e])))
    have B1 := Lib.hid b1
    have K1 := Lib.hid k1
    clear b1 k1
    go_wp2
    go_ret
    exact ⟨by rw [HE.out]; rfl, ⟨o, by rw [HN.out]; exact ⟨_, B1.out, r1.out, H3.out⟩, .inl rfl⟩, K1.out.mono fun k e => .inl e⟩
  · have z1 : (fu != 0) = true := by simpa using hz
    by_cases hfull : ro - xs.length < ys.length
    · have HN := Lib.hid (show appB xs ys ro fu = xs from by unfold appB; rw [if_neg hz, if_pos hfull])
      have HE := Lib.hid (show appE xs.length ys.length ro fu = 4 from by unfold appE; rw [if_neg hz, if_pos hfull])
      go_enter Try.func25, Try.ntmps25
      go_wp2_with fail
      refine Q.out.mono ?_
      rintro e w1 ⟨rfl, b1, k1⟩
      rw [z1]
      have R1 := H2.out.keep k1 (fun g hg e => H3.out (by rw [hg, e]))
      have B1 := Lib.hid b1
      have K1 := Lib.hid k1
      have r1 := Lib.hid R1
      obtain ⟨q2, c2, rfl, hb2, hle2, hm2, hq2⟩ := R1.form
      have c1 := b1.cell
      have f1 := b1.free
      clear hz b1 k1 R1 hb2 hq2
      go_wp2
      go_region
      go_wp2
      go_ret
      exact ⟨by rw [HE.out]; rfl, ⟨o, by rw [HN.out]; exact ⟨_, B1.out.drew, r1.out.keep (Keep.refl _ _).drew (fun _ _ h => h) , H3.out⟩, .inl rfl⟩, (K1.out.mono fun k e => .inl e).drew⟩
    · have HN := Lib.hid (show appB xs ys ro fu = xs ++ ys from by unfold appB; rw [if_neg hz, if_neg hfull])
      have HE := Lib.hid (show appE xs.length ys.length ro fu = 0 from by unfold appE; rw [if_neg hz, if_neg hfull])
      go_enter Try.func25, Try.ntmps25
      go_wp2_with fail
      refine Q.out.mono ?_
      rintro e w1 ⟨rfl, b1, k1⟩
      rw [z1]
      have R1 := H2.out.keep k1 (fun g hg e => H3.out (by rw [hg, e]))
      have B1 := Lib.hid b1.drew
      have K1 := Lib.hid k1.drew
      have r1 := Lib.hid (R1.keep (Keep.refl (fun _ => False) w1).drew (fun _ _ h => h))
      obtain ⟨q2, c2, rfl, hb2, hle2, hm2, hq2⟩ := R1.form
      have c1 := b1.cell
      have f1 := b1.free
      have l1 := b1.lt
      have HY1 := Lib.hid (bytes_keep HY.out K1.out (fun h0 a ha e => HQ.out h0 a ha (.inl e)))
      clear hz b1 k1 R1 hb2 hq2
      go_wp2
      go_region
      obtain ⟨q3, c3, w3, o3, hrun3, hrow3, ⟨g3, ho3, hg3⟩, hb3⟩ := none_append (c := c2) w1.drew (ys := xs) (p := q2) (by obtain ⟨q', c', e, h, _⟩ := r1.out.form; simp at e; obtain ⟨rfl, rfl⟩ := e; exact h) (by omega)
      obtain ⟨q4, c4, w4, o4, hrun4, hrow4, ho4, hk4⟩ := more_append (c := c) w3 hrow3 (bytes_keep (X := fun _ => False) HY1.out (Keep.of_below hb3) (fun _ _ _ h => h)) (by omega)
      generalize xs ++ ys = zs at *
      have K4 : Keep (fun _ => False) w1.drew w4 := ((Keep.of_below hb3).trans' hk4 (fun k e => .inr (by rw [ho3] at e; cases e; exact hg3)))
      have B4 := K4.blk B1.out (fun h => h)
      have c4' := B4.cell
      have f4 := B4.free
      have HR := Lib.hid hrow4
      have HK := Lib.hid K4
      have H33 := Lib.hid B4
      have HO := Lib.hid (show ∃ g, o4 = some g ∧ w1.drew.heap.size ≤ g from by
        rcases ho4 with h | ⟨g, h, hg⟩
        · exact ⟨g3, by rw [h, ho3], hg3⟩
        · exact ⟨g, h, Nat.le_trans hb3.size hg⟩)
      clear hrow3 hrow4 ho3 hg3 ho4 hk4 hb3 K4 B4
      go_wp2_with (at_builtin; first | refine wpl_append rfl _ _ 28 rfl rfl rfl hrun3 ?_ | refine wpl_append rfl _ _ 28 rfl rfl rfl hrun4 ?_)
      go_ret
      obtain ⟨g4, ho4, hg4⟩ := HO.out
      have hop : o4 ≠ some r := by
        rw [ho4]; intro e; cases e; have := B1.out.lt; omega
      have K := Keep.set (X := fun k => k = r) (Keep.refl _ w4) (p := ⟨r, 0, none⟩) (.inl rfl) (.slice q4 zs.length c4)
      refine ⟨by rw [HE.out]; rfl, ⟨o4, by rw [HN.out]; exact ⟨_, H33.out.set 0 _, HR.out.keep K (fun g hg e => hop (by rw [hg, e])), hop⟩, ?_⟩, ?_⟩
      · exact .inr ⟨g4, ho4, Nat.le_trans K1.out.size hg4⟩
      · exact ((K1.out.trans (HK.out.mono fun k e => e.elim)).trans K).mono fun k e => .inl e
/-- REST -/
theorem wp_append_run' {P : Program} {w w' : World} {o : Oper} {a : Act} {K : Act → World → Prop} {Q : Exit → Act → World → Prop} (s x : Operand) (t : TypeId)
    (ho : o.op = .call { callee := .builtin .append, args := #[s, x], argTypes := #[t, t] }) {v1 v2 v' : Value} (hs : a.eval s = v1) (hx : a.eval x = v2)
    (hrun : (Builtin.append_ #[t, t] o.type #[v1, v2]).run P w = .ok v' w') (h : K (a.put o.dst v') w') : o.wp P a w K Q := by
  unfold Oper.wp
  simp [execOp, ho, resolve, invoke, builtin, hs, hx, hrun, Result.andThen]
  exact h
theorem bytes_take {w : World} {q : Option Addr} {xs : List Int} {m : Nat} (h : Lib.BytesIn w q xs.length xs) (hm : m ≤ xs.length) : Lib.BytesIn w q (xs.take m).length (xs.take m) := fun h0 => by
  have hl : (xs.take m).length = m := by simp; omega
  rw [hl] at h0
  obtain ⟨b, o, e, hc⟩ := h (by omega)
  refine ⟨b, o, e, fun i hi => ?_⟩
  rw [hl] at hi
  rw [hc i (by omega)]
  simp [List.getD, List.getElem?_take, hi]
set_option maxHeartbeats 1600000 in
theorem rcut (r : Nat) (xs : List Int) (sy ro fu n : Int) (o : Option Nat) (w : World) (h : RefAt w r xs sy ro fu o) (hl : xs.length ≤ 16777216) (hf0 : -1 ≤ fu) (hf1 : fu ≤ 9223372036854775807) :
    Calls Try.prog 30 #[.pointer (some ⟨r, 0, none⟩), .int .i64 n] w fun e w' => e = .returned (.int .i64 (cutE n xs.length fu)) ∧ (∃ o', RefAt w' r (cutB xs n fu) (cutS xs sy n fu) ro (cutF xs.length n fu) o' ∧ (o' = o ∨ ∃ g, o' = some g ∧ w.heap.size ≤ g)) ∧ Keep (foot r o) w w' := by
  obtain ⟨v, h1, h2, h3⟩ := h
  have Q := Lib.hid (rburn r v (.int .i64 sy) (.int .i64 ro) fu w h1 hf0 hf1)
  have H2 := Lib.hid h2
  have H3 := Lib.hid h3
  have H1 := Lib.hid h1
  obtain ⟨q2, c2, rfl, hb2, hle2, hm2, hq2⟩ := h2.form
  have c1 := h1.cell
  have HB2 := Lib.hid hb2
  clear h1 h2 h3 hb2 hq2
  by_cases hn : n < 0 ∨ (xs.length : Int) < n
  · have hn3 : n < 0 ∨ (xs.length : Int) < n ∨ fu = 0 := by omega
    have HE := Lib.hid (show cutE n xs.length fu = 1 from if_pos hn)
    have HBB := Lib.hid (show cutB xs n fu = xs from if_pos hn3)
    have HS := Lib.hid (show cutS xs sy n fu = sy from if_pos hn3)
    have HF := Lib.hid (show cutF xs.length n fu = fu from if_pos hn)
    by_cases hn0 : n < 0
    · have d1 : decide (n < 0) = true := decide_eq_true hn0
      clear hn hn3
      go_enter Try.func30, Try.ntmps30
      go_wp2
      go_ret
      exact ⟨by rw [HE.out]; rfl, ⟨o, by rw [HBB.out, HS.out, HF.out]; exact ⟨_, H1.out, H2.out, H3.out⟩, .inl rfl⟩, Keep.refl _ _⟩
    · have d1 : decide (n < 0) = false := decide_eq_false hn0
      have d2 : decide ((xs.length : Int) < n) = true := decide_eq_true (by omega)
      clear hn hn3
      go_enter Try.func30, Try.ntmps30
      go_wp2
      go_ret
      exact ⟨by rw [HE.out]; rfl, ⟨o, by rw [HBB.out, HS.out, HF.out]; exact ⟨_, H1.out, H2.out, H3.out⟩, .inl rfl⟩, Keep.refl _ _⟩
  · have d1 : decide (n < 0) = false := decide_eq_false (by omega)
    have d2 : decide ((xs.length : Int) < n) = false := decide_eq_false (by omega)
    have HE := Lib.hid (show cutE n xs.length fu = burnE fu from if_neg hn)
    have HF := Lib.hid (show cutF xs.length n fu = burn fu from if_neg hn)
    have hnn : n.toNat ≤ xs.length := by omega
    have hN : n = (n.toNat : Int) := by omega
    generalize n.toNat = N at *
    subst hN
    by_cases hz : fu = 0
    · subst hz
      have HBB := Lib.hid (show cutB xs N 0 = xs from if_pos (.inr (.inr rfl)))
      have HS := Lib.hid (show cutS xs sy N 0 = sy from if_pos (.inr (.inr rfl)))
      clear hn
      go_enter Try.func30, Try.ntmps30
      go_wp2_with fail
      refine Q.out.mono ?_
      rintro e w1 ⟨rfl, b1, k1⟩
      have r1 := Lib.hid (H2.out.keep k1 (fun g hg e => H3.out (by rw [hg, e])))
      have B1 := Lib.hid b1
      have K1 := Lib.hid k1
      clear b1 k1
      go_wp2
      go_ret
      exact ⟨by rw [HE.out]; rfl, ⟨o, by rw [HBB.out, HS.out, HF.out]; exact ⟨_, B1.out, r1.out, H3.out⟩, .inl rfl⟩, K1.out.mono fun k e => .inl e⟩
    · have z1 : (fu != 0) = true := by simpa using hz
      have HB := Lib.hid (show burnE fu = 0 from if_neg hz)
      have HBB := Lib.hid (show cutB xs N fu = xs.take N from (if_neg (by omega)).trans (by rw [Int.toNat_natCast]))
      have HS := Lib.hid (show cutS xs sy N fu = N from if_neg (by omega))
      clear hn
      go_enter Try.func30, Try.ntmps30
      go_wp2_with fail
      refine Q.out.mono ?_
      rintro e w1 ⟨rfl, b1, k1⟩
      rw [z1]
      have B1 := Lib.hid b1
      have K1 := Lib.hid k1
      have c1' := b1.cell
      have f1 := b1.free
      have l1 := b1.lt
      have hIN := bytes_take (bytes_keep HB2.out k1 (fun h0 a ha e => by
        rcases H2.out.form with ⟨q', c', e', _, _, _, ⟨rfl, rfl, rfl, rfl⟩ | ⟨g, rfl, rfl, _⟩⟩
        · simp at h0
        · simp at e'; rw [e'.1] at ha; cases ha; exact H3.out (by rw [← e]))) hnn
      obtain ⟨q3, c3, w3, o3, hrun3, hrow3, ⟨g3, ho3, hg3⟩, hb3⟩ := none_append (c := c2) w1 hIN (by simp; omega)
      have hln : (xs.take N).length = N := by simp; omega
      rw [hln] at hrun3 hrow3
      have B3 := B1.out.beyond hb3
      have c3' := B3.cell
      have f3 := B3.free
      have HR := Lib.hid hrow3
      have HK := Lib.hid hb3
      have H33 := Lib.hid B3
      have HO := Lib.hid (And.intro ho3 hg3)
      clear hz b1 k1 hIN hln hrow3 ho3 hg3 hb3 B3
      go_wp2_with (at_builtin; refine wpl_append rfl _ _ 28 rfl rfl rfl hrun3 ?_)
      go_ret
      obtain ⟨ho3, hg3⟩ := HO.out
      have hop : o3 ≠ some r := by
        rw [ho3]; intro e; cases e; have := B1.out.lt; omega
      have K := (Keep.set (X := fun k => k = r) (Keep.refl _ w3) (p := ⟨r, 0, none⟩) (.inl rfl) (.slice q3 N c3)).set (p := ⟨r, 1, none⟩) (.inl rfl) (.int .i64 (N : Int))
      refine ⟨by rw [HE.out, HB.out]; rfl, ⟨o3, by rw [HBB.out, HS.out, HF.out]; exact ⟨_, (H33.out.set 0 _).set 1 _, HR.out.keep K (fun g hg e => hop (by rw [hg, e])), hop⟩, .inr ⟨g3, ho3, Nat.le_trans K1.out.size hg3⟩⟩, ?_⟩
      exact ((K1.out.trans (Keep.of_below HK.out)).trans K).mono fun k e => .inl e
set_option maxHeartbeats 1600000 in
theorem rcrash (r : Nat) (xs : List Int) (sy ro fu n : Int) (o : Option Nat) (w : World) (h : RefAt w r xs sy ro fu o) (hl : xs.length ≤ 16777216) (hs0 : 0 ≤ sy) (hs1 : sy ≤ xs.length) :
    Calls Try.prog 33 #[.pointer (some ⟨r, 0, none⟩), .int .i64 n] w fun e w' => e = .returned (.tuple #[]) ∧ (∃ o', RefAt w' r (xs.take (crashN xs.length sy n)) (crashN xs.length sy n) ro (-1) o' ∧ (o' = o ∨ ∃ g, o' = some g ∧ w.heap.size ≤ g)) ∧ Keep (foot r o) w w' := by
  obtain ⟨v, h1, h2, h3⟩ := h
  have H2 := Lib.hid h2
  have H3 := Lib.hid h3
  obtain ⟨q2, c2, rfl, hb2, hle2, hm2, hq2⟩ := h2.form
  obtain ⟨k1, k2, k3⟩ := crashN_le xs.length sy n hs0 hs1
  generalize crashN xs.length sy n = N at *
  have c1 := h1.cell
  have f1 := h1.free
  have l1 := h1.lt
  have B1 := Lib.hid h1.drew
  have i1 := IntWalk.i64_in ((xs.length : Int) - sy) (by omega)
  have i2 : IntKind.i64.wrap (sy + max 0 (min n ((xs.length : Int) - sy))) = (N : Int) := by rw [k3]; exact IntWalk.i64_in _ (by omega)
  have i3 : IntKind.i64.wrap (sy + min (max n 0) ((xs.length : Int) - sy)) = (N : Int) := by rw [show min (max n 0) ((xs.length : Int) - sy) = max 0 (min n ((xs.length : Int) - sy)) from by omega]; exact i2
  have i4 : IntKind.i64.wrap (sy + min (max 0 n) ((xs.length : Int) - sy)) = (N : Int) := by rw [Int.max_comm 0 n]; exact i3
  have hIN := bytes_take (bytes_keep (X := fun _ => False) hb2 (Keep.refl _ w).drew (fun _ _ _ h => h)) k1
  obtain ⟨q3, c3, w3, o3, hrun3, hrow3, ⟨g3, ho3, hg3⟩, hb3⟩ := none_append (c := c2) w.drew hIN (by simp; omega)
  have hln : (xs.take N).length = N := by simp; omega
  rw [hln] at hrun3 hrow3
  have B3 := B1.out.beyond hb3
  have c3' := B3.cell
  have f3 := B3.free
  have HR := Lib.hid hrow3
  have HK := Lib.hid hb3
  have H33 := Lib.hid B3
  have HO := Lib.hid (And.intro ho3 hg3)
  clear h1 h2 h3 hb2 hq2 hIN hln hrow3 ho3 hg3 hb3 B3
  go_enter Try.func33, Try.ntmps33
  go_wp2_with fail
  go_still_tail 18, (by kernel_rfl)
  change wpList _ _ _ _ _ w.drew
  go_wp2_with (at_builtin; refine wpl_append rfl _ _ 28 rfl rfl rfl hrun3 ?_)
  go_end0
  obtain ⟨ho3, hg3⟩ := HO.out
  have hop : o3 ≠ some r := by
    rw [ho3]; intro e; cases e; have := B1.out.lt; omega
  have K := ((Keep.set (X := fun k => k = r) (Keep.refl _ w3) (p := ⟨r, 0, none⟩) (.inl rfl) (.slice q3 N c3)).set (p := ⟨r, 1, none⟩) (.inl rfl) (.int .i64 (N : Int))).set (p := ⟨r, 3, none⟩) (.inl rfl) (.int .i64 (-1))
  refine ⟨rfl, ⟨o3, ⟨_, ((H33.out.set 0 _).set 1 _).set 3 _, HR.out.keep K (fun g hg e => hop (by rw [hg, e])), hop⟩, .inr ⟨g3, ho3, hg3⟩⟩, ?_⟩
  exact ((((Keep.refl (fun k => k = r) w).drew).trans (Keep.of_below HK.out)).trans K).mono fun k e => .inl e
theorem rof_bad (q : Option Addr) (c n : Nat) (ro : Int) (w : World) (h : ro < 0 ∨ 16777216 < ro ∨ ro < n) :
    Calls Try.prog 21 #[.slice q n c, .int .i64 ro] w fun e w' => e = .returned (.tuple #[.pointer none, .int .i64 1]) ∧ w = w' := by
  by_cases h0 : ro < 0
  · have d1 : decide (ro < 0) = true := decide_eq_true h0
    clear h
    go_enter Try.func21, Try.ntmps21
    go_wp2
    go_ret2
    exact ⟨rfl, rfl⟩
  · have d1 : decide (ro < 0) = false := decide_eq_false h0
    by_cases h1 : 16777216 < ro
    · have d2 : decide (16777216 < ro) = true := decide_eq_true h1
      clear h
      go_enter Try.func21, Try.ntmps21
      go_wp2
      go_ret2
      exact ⟨rfl, rfl⟩
    · have d2 : decide (16777216 < ro) = false := decide_eq_false h1
      have d3 : decide (ro < (n : Int)) = true := decide_eq_true (by omega)
      clear h
      go_enter Try.func21, Try.ntmps21
      go_wp2
      go_ret2
      exact ⟨rfl, rfl⟩
theorem rof (q : Option Addr) (c : Nat) (xs : List Int) (ro : Int) (w : World) (hx : Lib.BytesIn w q xs.length xs) (h0 : 0 ≤ ro) (h1 : ro ≤ 16777216) (h2 : xs.length ≤ ro) :
    Calls Try.prog 21 #[.slice q xs.length c, .int .i64 ro] w fun e w' => ∃ r o, e = .returned (.tuple #[.pointer (some ⟨r, 0, none⟩), .int .i64 0]) ∧ RefAt w' r xs xs.length ro (-1) o ∧ w.heap.size ≤ r ∧ (∀ g, o = some g → w.heap.size ≤ g) ∧ Below w.heap.size w w' := by
  have d1 : decide (ro < 0) = false := decide_eq_false (by omega)
  have d2 : decide (16777216 < ro) = false := decide_eq_false (by omega)
  have d3 : decide (ro < (xs.length : Int)) = false := decide_eq_false (by omega)
  obtain ⟨q3, c3, w3, o3, hrun3, hrow3, ⟨g3, ho3, hg3⟩, hb3⟩ := none_append (c := c) w hx (by omega)
  have HR := Lib.hid hrow3
  have HB := Lib.hid hb3
  have HO := Lib.hid (And.intro ho3 hg3)
  clear hx hrow3 ho3 hg3 hb3
  go_enter Try.func21, Try.ntmps21
  go_wp2_with (at_builtin; refine wpl_append rfl _ _ 28 rfl rfl rfl hrun3 ?_)
  go_ret2
  obtain ⟨ho3, hg3⟩ := HO.out
  have hlt := HR.out.lt
  exact ⟨w3.heap.size, o3, rfl, ⟨_, Blk.new _ _ _, HR.out.keep ((Keep.refl (fun _ => False) w3).alloc _) (fun _ _ h => h), fun e => by have := hlt _ e; omega⟩, HB.out.size, fun g hg => by rw [ho3] at hg; cases hg; exact hg3, HB.out.alloc HB.out.size _⟩
set_option maxHeartbeats 1600000 in
theorem rcopy (r : Nat) (xs : List Int) (sy ro fu : Int) (o : Option Nat) (v : World) (h : RefAt v r xs sy ro fu o) (hl : xs.length ≤ 16777216) :
    Calls Try.prog 22 #[.pointer (some ⟨r, 0, none⟩)] v fun e w' => ∃ r' o', e = .returned (.pointer (some ⟨r', 0, none⟩)) ∧ RefAt w' r' xs sy ro fu o' ∧ v.heap.size ≤ r' ∧ (∀ g, o' = some g → v.heap.size ≤ g) ∧ Below v.heap.size v w' := by
  obtain ⟨u, h1, h2, h3⟩ := h
  obtain ⟨q2, c2, rfl, hb2, hle2, hm2, hq2⟩ := h2.form
  have c1 := h1.cell
  have l1 := h1.lt
  obtain ⟨q3, c3, w3, o3, hrun3, hrow3, ⟨g3, ho3, hg3⟩, hb3⟩ := none_append (c := c2) v.drew (bytes_keep (X := fun _ => False) hb2 (Keep.refl _ v).drew (fun _ _ _ h => h)) (by omega)
  have HRUN := Lib.hid hrun3
  have HR := Lib.hid hrow3
  have HO := Lib.hid (And.intro ho3 hg3)
  have SB := Lib.hid (show Below v.heap.size v w3 ∧ (∀ b o, b < v.heap.size → w3.cell? ⟨b, o, none⟩ = v.cell? ⟨b, o, none⟩) from ⟨(Below.refl v.heap.size v).drew.trans hb3, fun b o hlt => hb3.cell (p := ⟨b, o, none⟩) hlt⟩)
  clear h1 h2 h3 hb2 hq2 hrun3 hrow3 ho3 hg3 hb3
  go_enter Try.func22, Try.ntmps22
  go_upto_region 1 with fail
  refine wp_region_held_drew (S := fun w' => Below v.heap.size v w' ∧ (∀ b o, b < v.heap.size → w'.cell? ⟨b, o, none⟩ = v.cell? ⟨b, o, none⟩)) (by kernel_rfl) (SK.start v) (fun hS => ?_)
  refine wpAnyH_take (i := 1) (oi := ⟨_, _, _, _, _, _⟩) (v := ?_) rfl (by kernel_rfl) (by kernel_rfl) (by kernel_rfl) (fun _ _ _ h => h) (Or.inl ⟨by rfl, ?_⟩) hS ?_
  rotate_left
  · intro w0 hs; obtain ⟨s1, s2⟩ := hs; go_simp; try (with_reducible rfl)
  try simp only [Act.put, List.setIfInBounds_toArray, List.set_cons_zero, List.set_cons_succ]
  refine wpAnyH_take (i := 2) (oi := ⟨_, _, _, _, _, _⟩) (v := ?_) rfl (by kernel_rfl) (by kernel_rfl) (by kernel_rfl) (fun _ _ _ h => h) (Or.inl ⟨by rfl, ?_⟩) hS ?_
  rotate_left
  · intro w0 hs; obtain ⟨s1, s2⟩ := hs; go_simp; try (with_reducible rfl)
  try simp only [Act.put, List.setIfInBounds_toArray, List.set_cons_zero, List.set_cons_succ]
  refine wpAnyH_take (i := 3) (oi := ⟨_, _, _, _, _, _⟩) (v := ?_) rfl (by kernel_rfl) (by kernel_rfl) (by kernel_rfl) (fun _ _ _ h => h) (Or.inl ⟨by rfl, ?_⟩) hS ?_
  rotate_left
  · intro w0 hs; obtain ⟨s1, s2⟩ := hs; go_simp; try (with_reducible rfl)
  try simp only [Act.put, List.setIfInBounds_toArray, List.set_cons_zero, List.set_cons_succ]
  refine wpAnyH_take (i := 4) (oi := ⟨_, _, _, _, _, _⟩) (v := ?_) rfl (by kernel_rfl) (by kernel_rfl) (by kernel_rfl) (fun _ _ _ h => h) (Or.inl ⟨by rfl, ?_⟩) hS ?_
  rotate_left
  · intro w0 hs; obtain ⟨s1, s2⟩ := hs; go_simp; try (with_reducible rfl)
  try simp only [Act.put, List.setIfInBounds_toArray, List.set_cons_zero, List.set_cons_succ]
  refine wpAnyH_take (i := 6) (oi := ⟨_, _, _, _, _, _⟩) (v := ?_) rfl (by kernel_rfl) (by kernel_rfl) (by kernel_rfl) (fun _ _ _ h => h) (Or.inl ⟨by rfl, ?_⟩) hS ?_
  rotate_left
  · intro w0 hs; obtain ⟨s1, s2⟩ := hs; go_simp; try (with_reducible rfl)
  try simp only [Act.put, List.setIfInBounds_toArray, List.set_cons_zero, List.set_cons_succ]
  refine wpAnyH_take (i := 7) (oi := ⟨_, _, _, _, _, _⟩) (v := ?_) rfl (by kernel_rfl) (by kernel_rfl) (by kernel_rfl) (fun _ _ _ h => h) (Or.inl ⟨by rfl, ?_⟩) hS ?_
  rotate_left
  · intro w0 hs; obtain ⟨s1, s2⟩ := hs; go_simp; try (with_reducible rfl)
  try simp only [Act.put, List.setIfInBounds_toArray, List.set_cons_zero, List.set_cons_succ]
  refine wpAnyH_take (i := 8) (oi := ⟨_, _, _, _, _, _⟩) (v := ?_) rfl (by kernel_rfl) (by kernel_rfl) (by kernel_rfl) (fun _ _ _ h => h) (Or.inl ⟨by rfl, ?_⟩) hS ?_
  rotate_left
  · intro w0 hs; obtain ⟨s1, s2⟩ := hs; go_simp; try (with_reducible rfl)
  try simp only [Act.put, List.setIfInBounds_toArray, List.set_cons_zero, List.set_cons_succ]
  refine wpAnyH_take (i := 9) (oi := ⟨_, _, _, _, _, _⟩) (v := ?_) rfl (by kernel_rfl) (by kernel_rfl) (by kernel_rfl) (fun _ _ _ h => h) (Or.inl ⟨by rfl, ?_⟩) hS ?_
  rotate_left
  · intro w0 hs; obtain ⟨s1, s2⟩ := hs; go_simp; try (with_reducible rfl)
  try simp only [Act.put, List.setIfInBounds_toArray, List.set_cons_zero, List.set_cons_succ]
  refine wpAnyH_take (i := 10) (oi := ⟨_, _, _, _, _, _⟩) (v := ?_) rfl (by kernel_rfl) (by kernel_rfl) (by kernel_rfl) (fun _ _ _ h => h) (Or.inl ⟨by rfl, ?_⟩) hS ?_
  rotate_left
  · intro w0 hs; obtain ⟨s1, s2⟩ := hs; go_simp; try (with_reducible rfl)
  try simp only [Act.put, List.setIfInBounds_toArray, List.set_cons_zero, List.set_cons_succ]
  refine wpAnyH_take (i := 11) (oi := ⟨_, _, _, _, _, _⟩) (v := ?_) rfl (by kernel_rfl) (by kernel_rfl) (by kernel_rfl) (fun _ _ _ h => h) (Or.inl ⟨by rfl, ?_⟩) hS ?_
  rotate_left
  · intro w0 hs; obtain ⟨s1, s2⟩ := hs; go_simp; try (with_reducible rfl)
  try simp only [Act.put, List.setIfInBounds_toArray, List.set_cons_zero, List.set_cons_succ]
  refine wpAnyH_take (i := 12) (oi := ⟨_, _, _, _, _, _⟩) (v := ?_) rfl (by kernel_rfl) (by kernel_rfl) (by kernel_rfl) (fun _ _ _ h => h) (Or.inl ⟨by rfl, ?_⟩) hS ?_
  rotate_left
  · intro w0 hs; obtain ⟨s1, s2⟩ := hs; go_simp; try (with_reducible rfl)
  try simp only [Act.put, List.setIfInBounds_toArray, List.set_cons_zero, List.set_cons_succ]
  refine wpAnyH_take (i := 13) (oi := ⟨_, _, _, _, _, _⟩) (v := ?_) rfl (by kernel_rfl) (by kernel_rfl) (by kernel_rfl) (fun _ _ _ h => h) (Or.inl ⟨by rfl, ?_⟩) hS ?_
  rotate_left
  · intro w0 hs; obtain ⟨s1, s2⟩ := hs; go_simp; try (with_reducible rfl)
  try simp only [Act.put, List.setIfInBounds_toArray, List.set_cons_zero, List.set_cons_succ]
  refine wpAnyH_take (i := 14) (oi := ⟨_, _, _, _, _, _⟩) (v := ?_) rfl (by kernel_rfl) (by kernel_rfl) (by kernel_rfl) (fun _ _ _ h => h) (Or.inl ⟨by rfl, ?_⟩) hS ?_
  rotate_left
  · intro w0 hs; obtain ⟨s1, s2⟩ := hs; go_simp; try (with_reducible rfl)
  try simp only [Act.put, List.setIfInBounds_toArray, List.set_cons_zero, List.set_cons_succ]
  refine wpAnyH_take (i := 15) (oi := ⟨_, _, _, _, _, _⟩) (v := ?_) rfl (by kernel_rfl) (by kernel_rfl) (by kernel_rfl) (fun _ _ _ h => h) (Or.inl ⟨by rfl, ?_⟩) hS ?_
  rotate_left
  · intro w0 hs; obtain ⟨s1, s2⟩ := hs; go_simp; try (with_reducible rfl)
  try simp only [Act.put, List.setIfInBounds_toArray, List.set_cons_zero, List.set_cons_succ]
  refine wpAnyH_take (i := 16) (oi := ⟨_, _, _, _, _, _⟩) (v := ?_) rfl (by kernel_rfl) (by kernel_rfl) (by kernel_rfl) (fun _ _ _ h => h) (Or.inl ⟨by rfl, ?_⟩) hS ?_
  rotate_left
  · intro w0 hs; obtain ⟨s1, s2⟩ := hs; go_simp; try (with_reducible rfl)
  try simp only [Act.put, List.setIfInBounds_toArray, List.set_cons_zero, List.set_cons_succ]
  refine wpAnyH_take (i := 17) (oi := ⟨_, _, _, _, _, _⟩) (v := ?_) rfl (by kernel_rfl) (by kernel_rfl) (by kernel_rfl) (fun _ _ _ h => h) (Or.inl ⟨by rfl, ?_⟩) hS ?_
  rotate_left
  · intro w0 hs; obtain ⟨s1, s2⟩ := hs; go_simp; try (with_reducible rfl)
  try simp only [Act.put, List.setIfInBounds_toArray, List.set_cons_zero, List.set_cons_succ]
  refine wpAnyH_ready (rs := [0]) (by kernel_rfl) (by simp) ?_
  refine AllReadyH.cons (o := ⟨_, _, _, _, _, _⟩) rfl (fun K hK => ?_) AllReadyH.nil
  rw [if_pos (by rfl)]
  go_simp
  refine hK.out _ _ (by first | exact SK.alloc hS _ | exact SB.out) (fun hS' => ?_)
  clear hS hK
  have hS := hS'; clear hS'
  try simp only [Act.put, List.setIfInBounds_toArray, List.set_cons_zero, List.set_cons_succ]
  refine wpAnyH_ready (rs := [5]) (by kernel_rfl) (by simp) ?_
  refine AllReadyH.cons (o := ⟨_, _, _, _, _, _⟩) rfl (fun K hK => ?_) AllReadyH.nil
  rw [if_pos (by rfl)]
  refine wp_append_run' _ _ 28 rfl rfl rfl HRUN.out ?_
  refine hK.out _ _ (by first | exact SK.alloc hS _ | exact SB.out) (fun hS' => ?_)
  clear hS hK
  have hS := hS'; clear hS'
  try simp only [Act.put, List.setIfInBounds_toArray, List.set_cons_zero, List.set_cons_succ]
  refine wpAnyH_take (i := 18) (oi := ⟨_, _, _, _, _, _⟩) (v := ?_) rfl (by kernel_rfl) (by kernel_rfl) (by kernel_rfl) (fun _ _ _ h => h) (Or.inl ⟨by rfl, ?_⟩) hS ?_
  rotate_left
  · intro w0 hs; obtain ⟨s1, s2⟩ := hs; go_simp; try (with_reducible rfl)
  try simp only [Act.put, List.setIfInBounds_toArray, List.set_cons_zero, List.set_cons_succ]
  refine wpAnyH_ready (rs := [19]) (by kernel_rfl) (by simp) ?_
  refine AllReadyH.cons (o := ⟨_, _, _, _, _, _⟩) rfl (fun K hK => ?_) AllReadyH.nil
  rw [if_pos (by rfl)]
  go_simp
  refine hK.out _ _ (by first | exact SK.alloc hS _ | exact SB.out) (fun hS' => ?_)
  clear hS hK
  have hS := hS'; clear hS'
  try simp only [Act.put, List.setIfInBounds_toArray, List.set_cons_zero, List.set_cons_succ]
  refine wpAnyH_take (i := 20) (oi := ⟨_, _, _, _, _, _⟩) (v := ?_) rfl (by kernel_rfl) (by kernel_rfl) (by kernel_rfl) (fun _ _ _ h => h) (Or.inl ⟨by rfl, ?_⟩) hS ?_
  rotate_left
  · intro w0 hs; obtain ⟨s1, s2⟩ := hs; go_simp; try (with_reducible rfl)
  try simp only [Act.put, List.setIfInBounds_toArray, List.set_cons_zero, List.set_cons_succ]
  refine wpAnyH_done (by kernel_rfl) ?_ _
  go_wp2
  go_ret
  obtain ⟨ho3, hg3⟩ := HO.out
  have hlt := HR.out.lt
  exact ⟨w3.heap.size, o3, rfl, ⟨_, Blk.new _ _ _, HR.out.keep ((Keep.refl (fun _ => False) w3).alloc _) (fun _ _ h => h), fun e => by have := hlt _ e; omega⟩, SB.out.1.size, fun g hg => by rw [ho3] at hg; cases hg; exact hg3, SB.out.1.alloc SB.out.1.size _⟩
end Go.Proofs.Ytfeljjbelnlojaa
