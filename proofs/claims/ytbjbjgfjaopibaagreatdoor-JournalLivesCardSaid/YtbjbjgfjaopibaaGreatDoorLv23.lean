import Derived.Test.YtbjbjgfjaopibaaGreatDoorLv22
import Derived.Test.YtbjbjgfjaopibaaGreatDoorLv19
import Derived.Test.YtbjbjgfjaopibaaGreatDoorLv12
import Derived.Test.YtbjbjgfjaopibaaGreatDoorLv5
section
/- The document's tape (layer 15): Append, Cut, Crash, Copy, Of. -/
namespace Go.Proofs.YtbjbjgfjaopibaaGreatDoor
open Go Go.RowKit
set_option maxRecDepth 100000
set_option linter.unusedSimpArgs false

/-- append([]byte{}, b..), a run -/
theorem none_append {ys : List Int} {p : Option Addr} {c : Nat} (w : World) (hy : Lib.BytesIn w p ys.length ys) (hb : ys.length ≤ 1099511627776) :
    ∃ q c' w' o', (Builtin.append_ #[22, 22] 22 #[.slice (some ⟨w.heap.size, 0, none⟩) 0 0, .slice p ys.length c]).run Tryz.prog (w.alloc (.cells #[] 5)) = .ok (.slice q ys.length c') w' ∧ Row w' 5 (.slice q ys.length c') ys o' ∧ (∃ g, o' = some g ∧ w.heap.size ≤ g) ∧ Below w.heap.size w w' := by
  obtain ⟨i0, hi, hz0, hz1, hz2⟩ := info_parts u8info
  have hy' : Lib.BytesIn (w.alloc (.cells #[] 5)) p ys.length ys := bytes_keep (X := fun _ => False) hy ((Keep.refl _ w).alloc _) (fun _ _ _ h => h)
  obtain ⟨v', w3, o', hrun, hrow, ho, hk⟩ := row_append (P := Tryz.prog) 22 22 i0 (.int .u8 0) Tryz.underlying22 hi hz0 hz1 hz2 rfl (row_none w) (c := c) hy' (by simpa using hb)
  obtain ⟨q3, c3', rfl, _⟩ := hrow.form
  simp only [List.nil_append] at hrun hrow
  refine ⟨q3, c3', w3, o', hrun, hrow, ?_, ?_⟩
  · rcases ho with h | ⟨g, h, hg⟩
    · exact ⟨_, h, Nat.le_refl _⟩
    · exact ⟨g, h, by simp at hg; omega⟩
  · refine ((Below.refl w.heap.size w).alloc (Nat.le_refl _) _).trans (hk.below (by simp) fun k e => ?_)
    cases e; exact Nat.le_refl _
/-- append onto a row of one's own, a run -/
theorem more_append {xs ys : List Int} {v : Value} {o : Option Nat} {p : Option Addr} {c : Nat} (w : World) (h : Row w 5 v xs o) (hy : Lib.BytesIn w p ys.length ys) (hb : xs.length + ys.length ≤ 1099511627776) :
    ∃ q c' w' o', (Builtin.append_ #[22, 22] 22 #[v, .slice p ys.length c]).run Tryz.prog w = .ok (.slice q (xs ++ ys).length c') w' ∧ Row w' 5 (.slice q (xs ++ ys).length c') (xs ++ ys) o' ∧ (o' = o ∨ ∃ g, o' = some g ∧ w.heap.size ≤ g) ∧ Keep (fun k => o = some k) w w' := by
  obtain ⟨i0, hi, hz0, hz1, hz2⟩ := info_parts u8info
  obtain ⟨v', w3, o', hrun, hrow, ho, hk⟩ := row_append (P := Tryz.prog) 22 22 i0 (.int .u8 0) Tryz.underlying22 hi hz0 hz1 hz2 rfl h (c := c) hy hb
  obtain ⟨q3, c3', rfl, _⟩ := hrow.form
  exact ⟨q3, c3', w3, o', hrun, hrow, ho, hk⟩
set_option maxHeartbeats 1600000 in
theorem rappend (r : Nat) (xs ys : List Int) (sy ro fu : Int) (o : Option Nat) (q : Option Addr) (c : Nat) (w : World) (h : RefAt w r xs sy ro fu o) (hy : Lib.BytesIn w q ys.length ys) (hqx : 0 < ys.length → ∀ a, q = some a → ¬ foot r o a.block)
    (hl : xs.length ≤ 16777216) (hyl : ys.length ≤ 9223372036854775807) (hr0 : 0 ≤ ro) (hr1 : ro ≤ 16777216) (hf0 : -1 ≤ fu) (hf1 : fu ≤ 9223372036854775807) :
    Calls Tryz.prog 23 #[.pointer (some ⟨r, 0, none⟩), .slice q ys.length c] w fun e w' => e = .returned (.int .i64 (appE xs.length ys.length ro fu)) ∧ (∃ o', RefAt w' r (appB xs ys ro fu) sy ro (burn fu) o' ∧ (o' = o ∨ ∃ g, o' = some g ∧ w.heap.size ≤ g)) ∧ Keep (foot r o) w w' := by
  obtain ⟨v, h1, h2, h3⟩ := h
  have Q := Lib.hid (rburn r v (.int .i64 sy) (.int .i64 ro) fu w h1 hf0 hf1)
  have H2 := Lib.hid h2
  have H3 := Lib.hid h3
  have LT := Lib.hid h1.lt
  have HY := Lib.hid hy
  have HQ := Lib.hid hqx
  clear hy hqx h1 h2 h3
  by_cases hz : fu = 0
  · subst hz
    have HN := Lib.hid (show appB xs ys ro 0 = xs from rfl)
    have HE := Lib.hid (show appE xs.length ys.length ro 0 = 150 from rfl)
    go_enter Tryz.func23, Tryz.ntmps23
    go_wp2_with fail
    refine Q.out.mono ?_
    rintro e w1 ⟨rfl, b1, k1⟩
    have r1 := Lib.hid (H2.out.keep k1 (fun g hg e => H3.out (by rw [hg, e])))
    have B1 := Lib.hid b1
    have K1 := Lib.hid k1
    clear b1 k1
    go_wp2
    go_ret
    exact ⟨by rw [HE.out]; rfl, ⟨o, by rw [HN.out]; exact ⟨_, B1.out, r1.out, H3.out⟩, .inl rfl⟩, K1.out.mono fun k e => .inl e⟩
  · have z1 : (fu != 0) = true := by simpa using hz
    by_cases hfull : ro - xs.length < ys.length
    · have HN := Lib.hid (show appB xs ys ro fu = xs from by unfold appB; rw [if_neg hz, if_pos hfull])
      have HE := Lib.hid (show appE xs.length ys.length ro fu = 4 from by unfold appE; rw [if_neg hz, if_pos hfull])
      go_enter Tryz.func23, Tryz.ntmps23
      go_wp2_with fail
      refine Q.out.mono ?_
      rintro e w1 ⟨rfl, b1, k1⟩
      rw [z1]
      have R1 := H2.out.keep k1 (fun g hg e => H3.out (by rw [hg, e]))
      have B1 := Lib.hid b1
      have K1 := Lib.hid k1
      have r1 := Lib.hid R1
      obtain ⟨q2, c2, rfl, hb2, hle2, hm2, hq2⟩ := R1.form
      have c1 := b1.cell
      have f1 := b1.free
      clear hz b1 k1 R1 hb2 hq2
      go_wp2
      go_region
      go_wp2
      go_ret
      exact ⟨by rw [HE.out]; rfl, ⟨o, by rw [HN.out]; exact ⟨_, B1.out.drew, r1.out.keep (Keep.refl _ _).drew (fun _ _ h => h) , H3.out⟩, .inl rfl⟩, (K1.out.mono fun k e => .inl e).drew⟩
    · have HN := Lib.hid (show appB xs ys ro fu = xs ++ ys from by unfold appB; rw [if_neg hz, if_neg hfull])
      have HE := Lib.hid (show appE xs.length ys.length ro fu = 0 from by unfold appE; rw [if_neg hz, if_neg hfull])
      go_enter Tryz.func23, Tryz.ntmps23
      go_wp2_with fail
      refine Q.out.mono ?_
      rintro e w1 ⟨rfl, b1, k1⟩
      rw [z1]
      have R1 := H2.out.keep k1 (fun g hg e => H3.out (by rw [hg, e]))
      have B1 := Lib.hid b1.drew
      have K1 := Lib.hid k1.drew
      have r1 := Lib.hid (R1.keep (Keep.refl (fun _ => False) w1).drew (fun _ _ h => h))
      obtain ⟨q2, c2, rfl, hb2, hle2, hm2, hq2⟩ := R1.form
      have c1 := b1.cell
      have f1 := b1.free
      have l1 := b1.lt
      have HY1 := Lib.hid (bytes_keep HY.out K1.out (fun h0 a ha e => HQ.out h0 a ha (.inl e)))
      clear hz b1 k1 R1 hb2 hq2
      go_wp2
      go_region
      obtain ⟨q3, c3, w3, o3, hrun3, hrow3, ⟨g3, ho3, hg3⟩, hb3⟩ := none_append (c := c2) w1.drew (ys := xs) (p := q2) (by obtain ⟨q', c', e, h, _⟩ := r1.out.form; simp at e; obtain ⟨rfl, rfl⟩ := e; exact h) (by omega)
      obtain ⟨q4, c4, w4, o4, hrun4, hrow4, ho4, hk4⟩ := more_append (c := c) w3 hrow3 (bytes_keep (X := fun _ => False) HY1.out (Keep.of_below hb3) (fun _ _ _ h => h)) (by omega)
      generalize xs ++ ys = zs at *
      have K4 : Keep (fun _ => False) w1.drew w4 := ((Keep.of_below hb3).trans' hk4 (fun k e => .inr (by rw [ho3] at e; cases e; exact hg3)))
      have B4 := K4.blk B1.out (fun h => h)
      have c4' := B4.cell
      have f4 := B4.free
      have HR := Lib.hid hrow4
      have HK := Lib.hid K4
      have H33 := Lib.hid B4
      have HO := Lib.hid (show ∃ g, o4 = some g ∧ w1.drew.heap.size ≤ g from by
        rcases ho4 with h | ⟨g, h, hg⟩
        · exact ⟨g3, by rw [h, ho3], hg3⟩
        · exact ⟨g, h, Nat.le_trans hb3.size hg⟩)
      clear hrow3 hrow4 ho3 hg3 ho4 hk4 hb3 K4 B4
      go_wp2_with (at_builtin; first | refine wpl_append rfl _ _ 22 rfl rfl rfl hrun3 ?_ | refine wpl_append rfl _ _ 22 rfl rfl rfl hrun4 ?_)
      go_ret
      obtain ⟨g4, ho4, hg4⟩ := HO.out
      have hop : o4 ≠ some r := by
        rw [ho4]; intro e; cases e; have := B1.out.lt; omega
      have K := Keep.set (X := fun k => k = r) (Keep.refl _ w4) (p := ⟨r, 0, none⟩) (.inl rfl) (.slice q4 zs.length c4)
      refine ⟨by rw [HE.out]; rfl, ⟨o4, by rw [HN.out]; exact ⟨_, H33.out.set 0 _, HR.out.keep K (fun g hg e => hop (by rw [hg, e])), hop⟩, ?_⟩, ?_⟩
      · exact .inr ⟨g4, ho4, Nat.le_trans K1.out.size hg4⟩
      · exact ((K1.out.trans (HK.out.mono fun k e => e.elim)).trans K).mono fun k e => .inl e
/-- REST -/
theorem wp_append_run' {P : Program} {w w' : World} {o : Oper} {a : Act} {K : Act → World → Prop} {Q : Exit → Act → World → Prop} (s x : Operand) (t : TypeId)
    (ho : o.op = .call { callee := .builtin .append, args := #[s, x], argTypes := #[t, t] }) {v1 v2 v' : Value} (hs : a.eval s = v1) (hx : a.eval x = v2)
    (hrun : (Builtin.append_ #[t, t] o.type #[v1, v2]).run P w = .ok v' w') (h : K (a.put o.dst v') w') : o.wp P a w K Q := by
  unfold Oper.wp
  simp [execOp, ho, resolve, invoke, builtin, hs, hx, hrun, Result.andThen]
  exact h
theorem bytes_take {w : World} {q : Option Addr} {xs : List Int} {m : Nat} (h : Lib.BytesIn w q xs.length xs) (hm : m ≤ xs.length) : Lib.BytesIn w q (xs.take m).length (xs.take m) := fun h0 => by
  have hl : (xs.take m).length = m := by simp; omega
  rw [hl] at h0
  obtain ⟨b, o, e, hc⟩ := h (by omega)
  refine ⟨b, o, e, fun i hi => ?_⟩
  rw [hl] at hi
  rw [hc i (by omega)]
  simp [List.getD, List.getElem?_take, hi]
set_option maxHeartbeats 1600000 in
theorem rcut (r : Nat) (xs : List Int) (sy ro fu n : Int) (o : Option Nat) (w : World) (h : RefAt w r xs sy ro fu o) (hl : xs.length ≤ 16777216) (hf0 : -1 ≤ fu) (hf1 : fu ≤ 9223372036854775807) :
    Calls Tryz.prog 40 #[.pointer (some ⟨r, 0, none⟩), .int .i64 n] w fun e w' => e = .returned (.int .i64 (cutE n xs.length fu)) ∧ (∃ o', RefAt w' r (cutB xs n fu) (cutS xs sy n fu) ro (cutF xs.length n fu) o' ∧ (o' = o ∨ ∃ g, o' = some g ∧ w.heap.size ≤ g)) ∧ Keep (foot r o) w w' := by
  obtain ⟨v, h1, h2, h3⟩ := h
  have Q := Lib.hid (rburn r v (.int .i64 sy) (.int .i64 ro) fu w h1 hf0 hf1)
  have H2 := Lib.hid h2
  have H3 := Lib.hid h3
  have H1 := Lib.hid h1
  obtain ⟨q2, c2, rfl, hb2, hle2, hm2, hq2⟩ := h2.form
  have c1 := h1.cell
  have HB2 := Lib.hid hb2
  clear h1 h2 h3 hb2 hq2
  by_cases hn : n < 0 ∨ (xs.length : Int) < n
  · have hn3 : n < 0 ∨ (xs.length : Int) < n ∨ fu = 0 := by omega
    have HE := Lib.hid (show cutE n xs.length fu = 1 from if_pos hn)
    have HBB := Lib.hid (show cutB xs n fu = xs from if_pos hn3)
    have HS := Lib.hid (show cutS xs sy n fu = sy from if_pos hn3)
    have HF := Lib.hid (show cutF xs.length n fu = fu from if_pos hn)
    by_cases hn0 : n < 0
    · have d1 : decide (n < 0) = true := decide_eq_true hn0
      clear hn hn3
      go_enter Tryz.func40, Tryz.ntmps40
      go_wp2
      go_ret
      exact ⟨by rw [HE.out]; rfl, ⟨o, by rw [HBB.out, HS.out, HF.out]; exact ⟨_, H1.out, H2.out, H3.out⟩, .inl rfl⟩, Keep.refl _ _⟩
    · have d1 : decide (n < 0) = false := decide_eq_false hn0
      have d2 : decide ((xs.length : Int) < n) = true := decide_eq_true (by omega)
      clear hn hn3
      go_enter Tryz.func40, Tryz.ntmps40
      go_wp2
      go_ret
      exact ⟨by rw [HE.out]; rfl, ⟨o, by rw [HBB.out, HS.out, HF.out]; exact ⟨_, H1.out, H2.out, H3.out⟩, .inl rfl⟩, Keep.refl _ _⟩
  · have d1 : decide (n < 0) = false := decide_eq_false (by omega)
    have d2 : decide ((xs.length : Int) < n) = false := decide_eq_false (by omega)
    have HE := Lib.hid (show cutE n xs.length fu = burnE fu from if_neg hn)
    have HF := Lib.hid (show cutF xs.length n fu = burn fu from if_neg hn)
    have hnn : n.toNat ≤ xs.length := by omega
    have hN : n = (n.toNat : Int) := by omega
    generalize n.toNat = N at *
    subst hN
    by_cases hz : fu = 0
    · subst hz
      have HBB := Lib.hid (show cutB xs N 0 = xs from if_pos (.inr (.inr rfl)))
      have HS := Lib.hid (show cutS xs sy N 0 = sy from if_pos (.inr (.inr rfl)))
      clear hn
      go_enter Tryz.func40, Tryz.ntmps40
      go_wp2_with fail
      refine Q.out.mono ?_
      rintro e w1 ⟨rfl, b1, k1⟩
      have r1 := Lib.hid (H2.out.keep k1 (fun g hg e => H3.out (by rw [hg, e])))
      have B1 := Lib.hid b1
      have K1 := Lib.hid k1
      clear b1 k1
      go_wp2
      go_ret
      exact ⟨by rw [HE.out]; rfl, ⟨o, by rw [HBB.out, HS.out, HF.out]; exact ⟨_, B1.out, r1.out, H3.out⟩, .inl rfl⟩, K1.out.mono fun k e => .inl e⟩
    · have z1 : (fu != 0) = true := by simpa using hz
      have HB := Lib.hid (show burnE fu = 0 from if_neg hz)
      have HBB := Lib.hid (show cutB xs N fu = xs.take N from (if_neg (by omega)).trans (by rw [Int.toNat_natCast]))
      have HS := Lib.hid (show cutS xs sy N fu = N from if_neg (by omega))
      clear hn
      go_enter Tryz.func40, Tryz.ntmps40
      go_wp2_with fail
      refine Q.out.mono ?_
      rintro e w1 ⟨rfl, b1, k1⟩
      rw [z1]
      have B1 := Lib.hid b1
      have K1 := Lib.hid k1
      have c1' := b1.cell
      have f1 := b1.free
      have l1 := b1.lt
      have hIN := bytes_take (bytes_keep HB2.out k1 (fun h0 a ha e => by
        rcases H2.out.form with ⟨q', c', e', _, _, _, ⟨rfl, rfl, rfl, rfl⟩ | ⟨g, rfl, rfl, _⟩⟩
        · simp at h0
        · simp at e'; rw [e'.1] at ha; cases ha; exact H3.out (by rw [← e]))) hnn
      obtain ⟨q3, c3, w3, o3, hrun3, hrow3, ⟨g3, ho3, hg3⟩, hb3⟩ := none_append (c := c2) w1 hIN (by simp; omega)
      have hln : (xs.take N).length = N := by simp; omega
      rw [hln] at hrun3 hrow3
      have B3 := B1.out.beyond hb3
      have c3' := B3.cell
      have f3 := B3.free
      have HR := Lib.hid hrow3
      have HK := Lib.hid hb3
      have H33 := Lib.hid B3
      have HO := Lib.hid (And.intro ho3 hg3)
      clear hz b1 k1 hIN hln hrow3 ho3 hg3 hb3 B3
      go_wp2_with (at_builtin; refine wpl_append rfl _ _ 22 rfl rfl rfl hrun3 ?_)
      go_ret
      obtain ⟨ho3, hg3⟩ := HO.out
      have hop : o3 ≠ some r := by
        rw [ho3]; intro e; cases e; have := B1.out.lt; omega
      have K := (Keep.set (X := fun k => k = r) (Keep.refl _ w3) (p := ⟨r, 0, none⟩) (.inl rfl) (.slice q3 N c3)).set (p := ⟨r, 1, none⟩) (.inl rfl) (.int .i64 (N : Int))
      refine ⟨by rw [HE.out, HB.out]; rfl, ⟨o3, by rw [HBB.out, HS.out, HF.out]; exact ⟨_, (H33.out.set 0 _).set 1 _, HR.out.keep K (fun g hg e => hop (by rw [hg, e])), hop⟩, .inr ⟨g3, ho3, Nat.le_trans K1.out.size hg3⟩⟩, ?_⟩
      exact ((K1.out.trans (Keep.of_below HK.out)).trans K).mono fun k e => .inl e
set_option maxHeartbeats 1600000 in
theorem rcrash (r : Nat) (xs : List Int) (sy ro fu n : Int) (o : Option Nat) (w : World) (h : RefAt w r xs sy ro fu o) (hl : xs.length ≤ 16777216) (hs0 : 0 ≤ sy) (hs1 : sy ≤ xs.length) :
    Calls Tryz.prog 20 #[.pointer (some ⟨r, 0, none⟩), .int .i64 n] w fun e w' => e = .returned (.tuple #[]) ∧ (∃ o', RefAt w' r (xs.take (crashN xs.length sy n)) (crashN xs.length sy n) ro (-1) o' ∧ (o' = o ∨ ∃ g, o' = some g ∧ w.heap.size ≤ g)) ∧ Keep (foot r o) w w' := by
  obtain ⟨v, h1, h2, h3⟩ := h
  have H2 := Lib.hid h2
  have H3 := Lib.hid h3
  obtain ⟨q2, c2, rfl, hb2, hle2, hm2, hq2⟩ := h2.form
  obtain ⟨k1, k2, k3⟩ := crashN_le xs.length sy n hs0 hs1
  generalize crashN xs.length sy n = N at *
  have c1 := h1.cell
  have f1 := h1.free
  have l1 := h1.lt
  have B1 := Lib.hid h1.drew
  have i1 := IntWalk.i64_in ((xs.length : Int) - sy) (by omega)
  have i2 : IntKind.i64.wrap (sy + max 0 (min n ((xs.length : Int) - sy))) = (N : Int) := by rw [k3]; exact IntWalk.i64_in _ (by omega)
  have i3 : IntKind.i64.wrap (sy + min (max n 0) ((xs.length : Int) - sy)) = (N : Int) := by rw [show min (max n 0) ((xs.length : Int) - sy) = max 0 (min n ((xs.length : Int) - sy)) from by omega]; exact i2
  have i4 : IntKind.i64.wrap (sy + min (max 0 n) ((xs.length : Int) - sy)) = (N : Int) := by rw [Int.max_comm 0 n]; exact i3
  have hIN := bytes_take (bytes_keep (X := fun _ => False) hb2 (Keep.refl _ w).drew (fun _ _ _ h => h)) k1
  obtain ⟨q3, c3, w3, o3, hrun3, hrow3, ⟨g3, ho3, hg3⟩, hb3⟩ := none_append (c := c2) w.drew hIN (by simp; omega)
  have hln : (xs.take N).length = N := by simp; omega
  rw [hln] at hrun3 hrow3
  have B3 := B1.out.beyond hb3
  have c3' := B3.cell
  have f3 := B3.free
  have HR := Lib.hid hrow3
  have HK := Lib.hid hb3
  have H33 := Lib.hid B3
  have HO := Lib.hid (And.intro ho3 hg3)
  clear h1 h2 h3 hb2 hq2 hIN hln hrow3 ho3 hg3 hb3 B3
  go_enter Tryz.func20, Tryz.ntmps20
  go_wp2_with fail
  go_still_tail 18, (by kernel_rfl)
  change wpList _ _ _ _ _ w.drew
  go_wp2_with (at_builtin; refine wpl_append rfl _ _ 22 rfl rfl rfl hrun3 ?_)
  go_end0
  obtain ⟨ho3, hg3⟩ := HO.out
  have hop : o3 ≠ some r := by
    rw [ho3]; intro e; cases e; have := B1.out.lt; omega
  have K := ((Keep.set (X := fun k => k = r) (Keep.refl _ w3) (p := ⟨r, 0, none⟩) (.inl rfl) (.slice q3 N c3)).set (p := ⟨r, 1, none⟩) (.inl rfl) (.int .i64 (N : Int))).set (p := ⟨r, 3, none⟩) (.inl rfl) (.int .i64 (-1))
  refine ⟨rfl, ⟨o3, ⟨_, ((H33.out.set 0 _).set 1 _).set 3 _, HR.out.keep K (fun g hg e => hop (by rw [hg, e])), hop⟩, .inr ⟨g3, ho3, hg3⟩⟩, ?_⟩
  exact ((((Keep.refl (fun k => k = r) w).drew).trans (Keep.of_below HK.out)).trans K).mono fun k e => .inl e
theorem rof_bad (q : Option Addr) (c n : Nat) (ro : Int) (w : World) (h : ro < 0 ∨ 16777216 < ro ∨ ro < n) :
    Calls Tryz.prog 5 #[.slice q n c, .int .i64 ro] w fun e w' => e = .returned (.tuple #[.pointer none, .int .i64 1]) ∧ w = w' := by
  by_cases h0 : ro < 0
  · have d1 : decide (ro < 0) = true := decide_eq_true h0
    clear h
    go_enter Tryz.func5, Tryz.ntmps5
    go_wp2
    go_ret2
    exact ⟨rfl, rfl⟩
  · have d1 : decide (ro < 0) = false := decide_eq_false h0
    by_cases h1 : 16777216 < ro
    · have d2 : decide (16777216 < ro) = true := decide_eq_true h1
      clear h
      go_enter Tryz.func5, Tryz.ntmps5
      go_wp2
      go_ret2
      exact ⟨rfl, rfl⟩
    · have d2 : decide (16777216 < ro) = false := decide_eq_false h1
      have d3 : decide (ro < (n : Int)) = true := decide_eq_true (by omega)
      clear h
      go_enter Tryz.func5, Tryz.ntmps5
      go_wp2
      go_ret2
      exact ⟨rfl, rfl⟩
theorem rof (q : Option Addr) (c : Nat) (xs : List Int) (ro : Int) (w : World) (hx : Lib.BytesIn w q xs.length xs) (h0 : 0 ≤ ro) (h1 : ro ≤ 16777216) (h2 : xs.length ≤ ro) :
    Calls Tryz.prog 5 #[.slice q xs.length c, .int .i64 ro] w fun e w' => ∃ r o, e = .returned (.tuple #[.pointer (some ⟨r, 0, none⟩), .int .i64 0]) ∧ RefAt w' r xs xs.length ro (-1) o ∧ w.heap.size ≤ r ∧ (∀ g, o = some g → w.heap.size ≤ g) ∧ Below w.heap.size w w' := by
  have d1 : decide (ro < 0) = false := decide_eq_false (by omega)
  have d2 : decide (16777216 < ro) = false := decide_eq_false (by omega)
  have d3 : decide (ro < (xs.length : Int)) = false := decide_eq_false (by omega)
  obtain ⟨q3, c3, w3, o3, hrun3, hrow3, ⟨g3, ho3, hg3⟩, hb3⟩ := none_append (c := c) w hx (by omega)
  have HR := Lib.hid hrow3
  have HB := Lib.hid hb3
  have HO := Lib.hid (And.intro ho3 hg3)
  clear hx hrow3 ho3 hg3 hb3
  go_enter Tryz.func5, Tryz.ntmps5
  go_wp2_with (at_builtin; refine wpl_append rfl _ _ 22 rfl rfl rfl hrun3 ?_)
  go_ret2
  obtain ⟨ho3, hg3⟩ := HO.out
  have hlt := HR.out.lt
  exact ⟨w3.heap.size, o3, rfl, ⟨_, Blk.new _ _ _, HR.out.keep ((Keep.refl (fun _ => False) w3).alloc _) (fun _ _ h => h), fun e => by have := hlt _ e; omega⟩, HB.out.size, fun g hg => by rw [ho3] at hg; cases hg; exact hg3, HB.out.alloc HB.out.size _⟩
end Go.Proofs.YtbjbjgfjaopibaaGreatDoor
end

section
/- The document's first: the batch of the frame at the beginning of bytes. -/
namespace Go.Proofs.YtbjbjgfjaopibaaGreatDoor
open Go Go.RowKit
set_option linter.unusedSimpArgs false
set_option linter.unusedVariables false
set_option maxRecDepth 100000

theorem results_cell_tmp2 {P : Program} {fn : Func} {p u v : Tmp} {ty : TypeId} (h : fn.results = #[.cell p ty, .tmp u, .tmp v]) (tmps : Array Value) (w : World) (g : Nat) (t : TypeId) (cs : Array Value) (fr : Nat × Nat) (d : TypeDesc)
    (hp : tmps.getD p undef = .pointer (some ⟨g, 0, none⟩)) (hg : w.heap[g]? = some (.cells cs t fr))
    (hu : P.underlying ty = some d) (hd : (match d with | .struct _ | .array _ _ => true | _ => false) = true) (hi : (P.info? ty).map (·.size) = some cs.size) :
    (results fn tmps).run P w = .ok (.tuple #[.agg cs, tmps.getD u undef, tmps.getD v undef]) w := by
  have hp' : tmps[p]?.getD undef = .pointer (some ⟨g, 0, none⟩) := by simpa using hp
  simp [results, h, hp', asAddr, run_loadVar_row w g t ty cs fr d hg hu hd hi]
/-- what 'first' answers -/
def FstPost (bs : List Int) (w : World) (e : Ending) (w' : World) : Prop := Below w.heap.size w w' ∧
  ∃ (pq dq : Option Addr) (pl pn dl dn : Nat), (((∀ x s, Fit x → bs ≠ frmX x ++ s) ∧ ∃ n : Int, e = .returned (.tuple #[.agg #[.slice pq pl pn, .slice dq dl dn], .int .i64 n, .bool false])) ∨
    ∃ (X : List PairD) (Y : List ByteArray) (n : Nat), Fit ⟨X.map pairX, Y.map bsK⟩ ∧ n = (frmX ⟨X.map pairX, Y.map bsK⟩).length ∧ bs = frmX ⟨X.map pairX, Y.map bsK⟩ ++ bs.drop n ∧ e = .returned (.tuple #[.agg #[.slice pq pl pn, .slice dq dl dn], .int .i64 (n : Int), .bool true]) ∧ (X.length ≤ 20000 ∧ pl = X.length) ∧ (Y.length ≤ 20000 ∧ dl = Y.length) ∧
      LstAt pairK 58 w' w.heap.size (.slice pq pl pn) X ∧ LstAt strK 9 w' w.heap.size (.slice dq dl dn) Y)
set_option maxHeartbeats 12800000 in
theorem rfirst (bs : List Int) (q : Option Addr) (c : Nat) (w : World) (hy : Lib.BytesIn w q bs.length bs) (hb : Byt bs) (hc : bs.length ≤ c) (hcm : c ≤ 9223372036854775807) (hl : bs.length ≤ 140737488351232) :
    Calls Tryz.prog 38 #[.slice q bs.length c] w (FstPost bs w) := by
  have B1 := Blk.new w #[.slice none 0 0, .slice none 0 0] 41
  have K1 : Below w.heap.size w (w.alloc (.cells #[.slice none 0 0, .slice none 0 0] 41)) := (Below.refl w.heap.size w).alloc (Nat.le_refl _) _
  have hs1 : (w.alloc (.cells #[.slice none 0 0, .slice none 0 0] 41)).heap.size = w.heap.size + 1 := by simp
  have hy1 := bytes_keep hy (Keep.of_below (X := fun _ => False) K1) (fun _ _ _ h => h)
  obtain ⟨w1, hw1⟩ : ∃ w1, w1 = w.alloc (.cells #[.slice none 0 0, .slice none 0 0] 41) := ⟨_, rfl⟩
  rw [← hw1] at B1 K1 hs1 hy1
  clear hy
  by_cases h12 : bs.length < 12
  · have HN := Lib.hid (frm_none hb (show rdFrm bs = none by unfold rdFrm; rw [if_pos h12]))
    have BX := B1
    have KX := K1
    clear B1 K1 hb hy1
    generalize bs.length = n at *
    have m1 : decide ((n : Int) < 12) = true := decide_eq_true (by omega)
    have hF0 : Blk ((w1.setCell ⟨w.heap.size, 0, none⟩ (.slice none 0 0)).setCell ⟨w.heap.size, 1, none⟩ (.slice none 0 0)) w.heap.size #[.slice none 0 0, .slice none 0 0] 41 := (BX.set 0 _).set 1 _
    have hF1 : Below w.heap.size w ((w1.setCell ⟨w.heap.size, 0, none⟩ (.slice none 0 0)).setCell ⟨w.heap.size, 1, none⟩ (.slice none 0 0)) := (KX.setCell (p := ⟨w.heap.size, 0, none⟩) (Nat.le_refl _) _).setCell (p := ⟨w.heap.size, 1, none⟩) (Nat.le_refl _) _
    have cR0 := BX.cell 0
    have cR1 := BX.cell 1
    have fR := BX.free
    have HF := Lib.hid (And.intro hF0 (And.intro hF1 HN.out))
    clear hF0 hF1 BX KX
    go_enter Tryz.func38, Tryz.ntmps38
    go_upto_region 1 with fail
    rw [← hw1]
    clear hw1 hs1
    generalize hgw : w.heap.size = g at *
    go_wp2
    exact bodyPost_ret (results_cell_tmp2 Tryz.results38 _ _ g 41 #[.slice none 0 0, .slice none 0 0] (0,0) _ rfl HF.out.1 Tryz.underlying41 rfl (by kernel_rfl)) rfl ⟨by rw [hgw]; exact HF.out.2.1, none, none, 0, 0, 0, 0, .inl ⟨HF.out.2.2, _, rfl⟩⟩
  · obtain ⟨b, o, rfl, hcell⟩ := hy1.at (by omega)
    clear hcell
    have hy4 := bytes_take (m := 4) hy1 (by omega)
    have h4 : (bs.take 4).length = 4 := by rw [List.length_take]; omega
    have PN := rnum (bs.take 4) (some ⟨b, o, none⟩) c w1 hy4 (fun y hy => hb y (List.mem_of_mem_take hy)) (by omega)
    rw [h4] at PN
    have PN := Lib.hid PN
    have hNs : leN (bs.take 4) < 2 ^ 32 := by
      obtain ⟨x0, x1, x2, x3, r0, r1, r2, r3, _, _, _, _, hle⟩ := le4 hb (by omega)
      omega
    obtain ⟨N, hN⟩ : ∃ N, N = leN (bs.take 4) := ⟨_, rfl⟩
    rw [← hN] at PN hNs
    obtain ⟨n, hn⟩ : ∃ n, n = bs.length := ⟨_, rfl⟩
    have hrd : rdFrm bs = if 1048576 < N ∨ n - 12 < N then none else if headB ((bs.drop 12).take N) = bs.take 12 then some ((bs.drop 12).take N) else none := by
      unfold rdFrm
      rw [← hN, ← hn, if_neg (by rw [hn]; exact h12)]
    have HRD := Lib.hid hrd
    have HY := Lib.hid (And.intro hy1 (And.intro hb (And.intro hn hN)))
    rw [← hn] at h12 hc hl ⊢
    have HW := Lib.hid (And.intro B1 (And.intro K1 hs1))
    clear hy4 h4 hrd hN hn hy1 hb B1 K1 hs1
    have m1 : decide ((n : Int) < 12) = false := decide_eq_false (by omega)
    have w2 : IntKind.i64.wrap ((n : Int) - 12) = (n : Int) - 12 := IntWalk.i64_in _ (by omega)
    have w3 : IntKind.u64.wrap ((n : Int) - 12) = (n : Int) - 12 := IntWalk.u64_in _ (by omega)
    have w4 : IntKind.i64.wrap (12 + (N : Int)) = 12 + (N : Int) := IntWalk.i64_in _ (by omega)
    have w5 : IntKind.i64.wrap (N : Int) = (N : Int) := IntWalk.i64_in _ (by omega)
    have c4 : (4 : Int) ≤ (c : Int) := by omega
    go_enter Tryz.func38, Tryz.ntmps38
    go_upto_region 1 with fail
    rw [← hw1]
    clear hw1
    go_wp2_with fail
    refine PN.out.mono ?_
    rintro e w1' ⟨rfl, rfl⟩
    by_cases hA : 1048576 < N
    · have HN := Lib.hid (frm_none HY.out.2.1 (show rdFrm bs = none by rw [HRD.out, if_pos (.inl hA)]))
      have BX := HW.out.1
      have KX := HW.out.2.1
      have m2 : decide ((1048576 : Int) < (N : Int)) = true := decide_eq_true (by omega)
      have m2' : (1048576 : Int) < (N : Int) := by omega
      have hF0 : Blk ((w1.setCell ⟨w.heap.size, 0, none⟩ (.slice none 0 0)).setCell ⟨w.heap.size, 1, none⟩ (.slice none 0 0)) w.heap.size #[.slice none 0 0, .slice none 0 0] 41 := (BX.set 0 _).set 1 _
      have hF1 : Below w.heap.size w ((w1.setCell ⟨w.heap.size, 0, none⟩ (.slice none 0 0)).setCell ⟨w.heap.size, 1, none⟩ (.slice none 0 0)) := (KX.setCell (p := ⟨w.heap.size, 0, none⟩) (Nat.le_refl _) _).setCell (p := ⟨w.heap.size, 1, none⟩) (Nat.le_refl _) _
      have cR0 := BX.cell 0
      have cR1 := BX.cell 1
      have fR := BX.free
      have HF := Lib.hid (And.intro hF0 (And.intro hF1 HN.out))
      clear hF0 hF1 BX KX
      generalize hgw : w.heap.size = g at *
      go_wp2
      exact bodyPost_ret (results_cell_tmp2 Tryz.results38 _ _ g 41 #[.slice none 0 0, .slice none 0 0] (0,0) _ rfl HF.out.1 Tryz.underlying41 rfl (by kernel_rfl)) rfl ⟨by rw [hgw]; exact HF.out.2.1, none, none, 0, 0, 0, 0, .inl ⟨HF.out.2.2, _, rfl⟩⟩
    · have m2 : decide ((1048576 : Int) < (N : Int)) = false := decide_eq_false (by omega)
      by_cases hB : n - 12 < N
      · have HN := Lib.hid (frm_none HY.out.2.1 (show rdFrm bs = none by rw [HRD.out, if_pos (.inr hB)]))
        have BX := HW.out.1
        have KX := HW.out.2.1
        have m3 : (n : Int) - 12 < (N : Int) := by omega
        have m3' : decide ((n : Int) - 12 < (N : Int)) = true := decide_eq_true (by omega)
        have hF0 : Blk ((w1.setCell ⟨w.heap.size, 0, none⟩ (.slice none 0 0)).setCell ⟨w.heap.size, 1, none⟩ (.slice none 0 0)) w.heap.size #[.slice none 0 0, .slice none 0 0] 41 := (BX.set 0 _).set 1 _
        have hF1 : Below w.heap.size w ((w1.setCell ⟨w.heap.size, 0, none⟩ (.slice none 0 0)).setCell ⟨w.heap.size, 1, none⟩ (.slice none 0 0)) := (KX.setCell (p := ⟨w.heap.size, 0, none⟩) (Nat.le_refl _) _).setCell (p := ⟨w.heap.size, 1, none⟩) (Nat.le_refl _) _
        have cR0 := BX.cell 0
        have cR1 := BX.cell 1
        have fR := BX.free
        have HF := Lib.hid (And.intro hF0 (And.intro hF1 HN.out))
        clear hF0 hF1 BX KX
        generalize hgw : w.heap.size = g at *
        go_wp2
        exact bodyPost_ret (results_cell_tmp2 Tryz.results38 _ _ g 41 #[.slice none 0 0, .slice none 0 0] (0,0) _ rfl HF.out.1 Tryz.underlying41 rfl (by kernel_rfl)) rfl ⟨by rw [hgw]; exact HF.out.2.1, none, none, 0, 0, 0, 0, .inl ⟨HF.out.2.2, _, rfl⟩⟩
      · have m3 : decide ((n : Int) - 12 < (N : Int)) = false := decide_eq_false (by omega)
        have hlb : ((bs.drop 12).take N).length = N := by rw [List.length_take, List.length_drop, ← HY.out.2.2.1]; omega
        have hn' : rdFrm bs = if headB ((bs.drop 12).take N) = bs.take 12 then some ((bs.drop 12).take N) else none := by rw [HRD.out, if_neg (by omega)]
        have hall : bs.take (12 + N) = bs.take 12 ++ (bs.drop 12).take N := List.take_add
        have h12l : (bs.take 12).length = 12 := by rw [List.length_take, ← HY.out.2.2.1]; omega
        have hbb : Byt ((bs.drop 12).take N) := (HY.out.2.1.drop 12).take N
        have hta : (bs.take (12 + N)).length = 12 + N := by rw [List.length_take, ← HY.out.2.2.1]; omega
        have hbta : Byt (bs.take (12 + N)) := HY.out.2.1.take _
        have hball : ∀ w', Below w1.heap.size w1 w' → Lib.BytesIn w' (some ⟨b, o, none⟩) (bs.take (12 + N)).length (bs.take (12 + N)) := fun w' hw' => bytes_take (bytes_keep HY.out.1 (Keep.of_below (X := fun _ => False) hw') (fun _ _ _ h => h)) (by rw [← HY.out.2.2.1]; omega)
        have hbod : ∀ p, (0 < N → p = some (⟨b, o + 12, none⟩ : Addr)) → ∀ w', Below w1.heap.size w1 w' → Lib.BytesIn w' p ((bs.drop 12).take N).length ((bs.drop 12).take N) := fun p hp w' hw' => by
          have hyy := bytes_keep HY.out.1 (Keep.of_below (X := fun _ => False) hw') (fun _ _ _ h => h)
          rw [hlb]
          intro h0
          obtain ⟨b', o', e1, hcc⟩ := hyy.at (by rw [← HY.out.2.2.1]; omega)
          cases e1
          refine ⟨b, o + 12, hp h0, fun i hi => ?_⟩
          rw [Nat.add_assoc, hcc (12 + i) (by rw [← HY.out.2.2.1]; omega)]
          simp [List.getD_eq_getElem?_getD, List.getElem?_take, hi]
        have hk12 : ∀ w', Below w1.heap.size w1 w' → (convert 22 9 (.slice (some ⟨b, o, none⟩) (12 + N) c)).run Tryz.prog w' = .ok (.string (sK (kOf (bs.take (12 + N))))) w' := fun w' hw' => by
          have := conv_str (c := c) (hball w' hw')
          rw [hta] at this; exact this
        obtain ⟨body, hbody⟩ : ∃ body, body = (bs.drop 12).take N := ⟨_, rfl⟩
        rw [← hbody] at hlb hn' hall hbb hbod
        have hiff : sK (kOf (frmB body)) = sK (kOf (bs.take (12 + N))) ↔ headB body = bs.take 12 := by
          constructor
          · intro h
            have h2 : kOf (frmB body) = kOf (bs.take (12 + N)) := by have := congrArg bsK h; exact this
            have h3 : frmB body = bs.take (12 + N) := by
              have hfb : Byt (frmB body) := (headB_byt _).app hbb
              rw [← kb_kOf hfb, h2, kb_kOf hbta]
            rw [hall] at h3
            exact (List.append_inj h3 (by rw [headB_len, h12l])).1
          · intro h
            rw [hall, ← h]; rfl
        obtain ⟨k1, hk1⟩ : ∃ k1, k1 = sK (kOf (frmB body)) := ⟨_, rfl⟩
        obtain ⟨k2, hk2⟩ : ∃ k2, k2 = sK (kOf (bs.take (12 + N))) := ⟨_, rfl⟩
        rw [← hk1, ← hk2] at hiff
        rw [← hk2] at hk12
        obtain ⟨fl, hfl⟩ : ∃ fl, fl = (frmB body).length := ⟨_, rfl⟩
        have HK1 := Lib.hid (And.intro hk1 hfl)
        have HC8 := Lib.hid hk12
        have HBB := Lib.hid (And.intro hbb (And.intro hbod (And.intro hlb (And.intro hn' hiff))))
        clear hlb hn' hall h12l hbb hta hbta hball hbod hk12 hbody hiff hk1 hk2 hfl HRD
        have g1 : 12 + (N : Int) ≤ (c : Int) := by omega
        have g2 : (12 : Int) ≤ (c : Int) := by omega
        have g3 : (12 : Int) ≤ 12 + (N : Int) := by omega
        have g4 : (12 + (N : Int)).toNat = 12 + N := by omega
        have g5 : (0 : Int) ≤ 12 + (N : Int) := by omega
        have hkk : (k1 = k2 ∧ (k1.toList == k2.toList) = true) ∨ (k1 ≠ k2 ∧ (k1.toList == k2.toList) = false) := by
          by_cases h : k1 = k2
          · exact .inl ⟨h, by rw [h]; exact beq_self_eq_true _⟩
          · refine .inr ⟨h, beq_eq_false_iff_ne.2 fun e => h ?_⟩
            rw [ByteArray.toList_eq, ByteArray.toList_eq] at e
            exact congrArg sK e
        have HKK := Lib.hid hkk
        clear hkk
        by_cases hc12 : c = 12
        · obtain rfl : N = 0 := by omega
          obtain rfl := hc12
          have HPP : (0 < 0 → (some ⟨b, o, none⟩ : Option Addr) = some (⟨b, o + 12, none⟩ : Addr)) := fun h => absurd h (Nat.lt_irrefl 0)
          have PF : ∀ w', Below w1.heap.size w1 w' → Calls Tryz.prog 47 #[.slice (some ⟨b, o, none⟩) 0 0] w' fun e w'' => ∃ p c', e = .returned (.slice p fl c') ∧ (convert 22 9 (.slice p fl c')).run Tryz.prog w'' = .ok (.string k1) w'' ∧ Below w'.heap.size w' w'' := fun w' hw' => by
            have := rframe body (some ⟨b, o, none⟩) 0 w' (HBB.out.2.1 _ HPP w' hw') HBB.out.1 (by rw [HBB.out.2.2.1]; omega)
            rw [HBB.out.2.2.1] at this
            refine this.mono ?_
            rintro e w'' ⟨p, c', o', rfl, R, ho, hb⟩
            obtain ⟨_, _, e2, hy2, _⟩ := R.form
            cases e2
            exact ⟨p, c', by rw [HK1.out.2], by rw [HK1.out.2, HK1.out.1]; exact conv_str hy2, hb⟩
          have PF := Lib.hid PF
          have PP2 : ∀ w', Below w1.heap.size w1 w' → Calls Tryz.prog 62 #[.slice (some ⟨b, o, none⟩) 0 0] w' (ReadPost body w') := fun w' hw' => by
            have := rparse body (some ⟨b, o, none⟩) 0 w' (HBB.out.2.1 _ HPP w' hw') HBB.out.1 (by rw [HBB.out.2.2.1]; omega) (by omega) (by rw [HBB.out.2.2.1]; omega)
            rw [HBB.out.2.2.1] at this; exact this
          have PP2 := Lib.hid PP2
          go_upto_region 7 with fail
          refine wp_region_held_drew (S := fun w' => Below w1.heap.size w1 w') (by kernel_rfl) ((Below.refl _ _).drew) (fun hS => ?_)
          refine tkH 0 (v := ?_) rfl (by kernel_rfl) ⟨by rfl, ?_⟩ hS ?_
          rotate_left
          · intro w0 hs; have hcv := HC8.out _ hs; go_simp; try (with_reducible rfl)
          try simp only [Act.put, List.setIfInBounds_toArray, List.set_cons_zero, List.set_cons_succ]
          refine tkH 1 (v := ?_) rfl (by kernel_rfl) ⟨by rfl, ?_⟩ hS ?_
          rotate_left
          · intro w0 hs; have hcv := HC8.out _ hs; go_simp; try (with_reducible rfl)
          try simp only [Act.put, List.setIfInBounds_toArray, List.set_cons_zero, List.set_cons_succ]
          refine tkH 2 (v := ?_) rfl (by kernel_rfl) ⟨by rfl, ?_⟩ hS ?_
          rotate_left
          · intro w0 hs; have hcv := HC8.out _ hs; go_simp; try (with_reducible rfl)
          try simp only [Act.put, List.setIfInBounds_toArray, List.set_cons_zero, List.set_cons_succ]
          refine tkH 5 (v := ?_) rfl (by kernel_rfl) ⟨by rfl, ?_⟩ hS ?_
          rotate_left
          · intro w0 hs; have hcv := HC8.out _ hs; go_simp; try (with_reducible rfl)
          try simp only [Act.put, List.setIfInBounds_toArray, List.set_cons_zero, List.set_cons_succ]
          refine tkH 6 (v := ?_) rfl (by kernel_rfl) ⟨by rfl, ?_⟩ hS ?_
          rotate_left
          · intro w0 hs; have hcv := HC8.out _ hs; go_simp; try (with_reducible rfl)
          try simp only [Act.put, List.setIfInBounds_toArray, List.set_cons_zero, List.set_cons_succ]
          refine tkH 7 (v := ?_) rfl (by kernel_rfl) ⟨by rfl, ?_⟩ hS ?_
          rotate_left
          · intro w0 hs; have hcv := HC8.out _ hs; go_simp; try (with_reducible rfl)
          try simp only [Act.put, List.setIfInBounds_toArray, List.set_cons_zero, List.set_cons_succ]
          refine tkH 8 (v := ?_) rfl (by kernel_rfl) ⟨by rfl, ?_⟩ hS ?_
          rotate_left
          · intro w0 hs; have hcv := HC8.out _ hs; go_simp; try (with_reducible rfl)
          try simp only [Act.put, List.setIfInBounds_toArray, List.set_cons_zero, List.set_cons_succ]
          refine wpAnyH_ready (rs := [3]) (by kernel_rfl) (by simp) ?_
          refine AllReadyH.cons (o := ⟨_, _, _, _, _, _⟩) rfl (fun K hK => ?_) AllReadyH.nil
          rw [if_pos (by rfl)]
          go_step
          refine (PF.out _ hS).mono ?_
          rintro e v1 ⟨p2, c2, rfl, hcv2, hb1⟩
          simp only []
          refine hK.out _ _ (hS.trans (hb1.mono hS.size)) (fun hS' => ?_)
          clear hS hK
          have hS := hS'; clear hS'
          try simp only [Act.put, List.setIfInBounds_toArray, List.set_cons_zero, List.set_cons_succ]
          refine wpAnyH_ready (rs := [4]) (by kernel_rfl) (by simp) ?_
          refine AllReadyH.cons (o := ⟨_, _, _, _, _, _⟩) rfl (fun K hK => ?_) AllReadyH.nil
          rw [if_pos (by rfl)]
          go_simp
          refine hK.out _ _ hS (fun hS' => ?_)
          clear hS hK
          have hS := hS'; clear hS'
          try simp only [Act.put, List.setIfInBounds_toArray, List.set_cons_zero, List.set_cons_succ]
          refine tkH 9 (v := ?_) rfl (by kernel_rfl) ⟨by rfl, ?_⟩ hS ?_
          rotate_left
          · intro w0 hs; have hcv := HC8.out _ hs; go_simp; try (with_reducible rfl)
          try simp only [Act.put, List.setIfInBounds_toArray, List.set_cons_zero, List.set_cons_succ]
          refine wpAnyH_done (by kernel_rfl) ?_ _
          rcases HKK.out with ⟨hke, hkb⟩ | ⟨hke, hkb⟩
          all_goals simp only [hkb, Bool.not_true, Bool.not_false]
          · have hsm : rdFrm bs = some body := by rw [HBB.out.2.2.2.1, if_pos (HBB.out.2.2.2.2.1 hke)]
            have HSM := Lib.hid hsm
            have hbl : body.length = 0 := HBB.out.2.2.1
            clear hsm hke
            go_wp2_with fail
            refine (PP2.out _ hS).mono ?_
            rintro e w3 ⟨hb3, pq, dq, pl, pn, dl, dn, hcase⟩
            have hb13 : Below w1.heap.size w1 w3 := hS.trans (hb3.mono hS.size)
            have bx := Blk.new w3 #[.slice pq pl pn, .slice dq dl dn] 41
            have kx := (Below.refl w3.heap.size w3).alloc (Nat.le_refl _) (.cells #[.slice pq pl pn, .slice dq dl dn] 41)
            have hb14 := hb13.trans (kx.mono hb13.size)
            have bg := HW.out.1.beyond hb14
            have bgb : Below w.heap.size w (w3.alloc (.cells #[.slice pq pl pn, .slice dq dl dn] 41)) := HW.out.2.1.trans (hb14.mono HW.out.2.1.size)
            have hv1 : w1.heap.size ≤ v1.heap.size := hS.size
            have hw1s : w1.heap.size = w.heap.size + 1 := HW.out.2.2
            have cb0 := bx.cell 0
            have cb1 := bx.cell 1
            rcases hcase with ⟨hn6, rfl⟩ | ⟨X, Y, hsm6, rfl, ⟨hX, hpl⟩, ⟨hY, hdl6⟩, LX, LY⟩
            · have HN := Lib.hid (bat_none HY.out.2.1 HSM.out hn6)
              clear hn6 hb13 bx hb14 hb3 hS PP2 PF hbl
              go_upto_region 10 with fail
              generalize w3.alloc (.cells #[.slice pq pl pn, .slice dq dl dn] 41) = w4 at *
              have BX := bg
              have KX := bgb
              have hF0 : Blk ((w4.setCell ⟨w.heap.size, 0, none⟩ (.slice pq pl pn)).setCell ⟨w.heap.size, 1, none⟩ (.slice dq dl dn)) w.heap.size #[.slice pq pl pn, .slice dq dl dn] 41 := (BX.set 0 _).set 1 _
              have hF1 : Below w.heap.size w ((w4.setCell ⟨w.heap.size, 0, none⟩ (.slice pq pl pn)).setCell ⟨w.heap.size, 1, none⟩ (.slice dq dl dn)) := (KX.setCell (p := ⟨w.heap.size, 0, none⟩) (Nat.le_refl _) _).setCell (p := ⟨w.heap.size, 1, none⟩) (Nat.le_refl _) _
              have hF2 : Keep (fun k => k = w.heap.size) w4 ((w4.setCell ⟨w.heap.size, 0, none⟩ (.slice pq pl pn)).setCell ⟨w.heap.size, 1, none⟩ (.slice dq dl dn)) := Keep.set (X := fun k => k = w.heap.size) (Keep.set (X := fun k => k = w.heap.size) (Keep.refl _ w4) (p := ⟨w.heap.size, 0, none⟩) (.inl rfl) _) (p := ⟨w.heap.size, 1, none⟩) (.inl rfl) _
              have cR0 := BX.cell 0
              have cR1 := BX.cell 1
              have fR := BX.free
              have HF := Lib.hid (And.intro hF0 (And.intro hF1 hF2))
              clear hF0 hF1 hF2 BX KX bg bgb
              generalize hgw : w.heap.size = g at *
              go_wp2
              exact bodyPost_ret (results_cell_tmp2 Tryz.results38 _ _ g 41 #[.slice pq pl pn, .slice dq dl dn] (0,0) _ rfl HF.out.1 Tryz.underlying41 rfl (by kernel_rfl)) rfl ⟨by rw [hgw]; exact HF.out.2.1, pq, dq, pl, pn, dl, dn, .inl ⟨HN.out, _, rfl⟩⟩
            · obtain ⟨hfit, hbb6, hbs⟩ := frm_some HY.out.2.1 HSM.out hsm6
              have hfn : 12 + 0 = (frmX ⟨X.map pairX, Y.map bsK⟩).length := by unfold frmX; rw [frmB_len, ← hbb6, hbl]
              rw [hbl] at hbs
              have HN := Lib.hid (And.intro hfit (And.intro hfn (And.intro hbs (And.intro hX (And.intro hpl (And.intro hY hdl6))))))
              obtain ⟨oX, LX⟩ := LX
              obtain ⟨oY, LY⟩ := LY
              have LX : LstO pairK 58 w3 v1.heap.size oX (.slice pq pl pn) X := LX
              have LY : LstO strK 9 w3 v1.heap.size oY (.slice dq dl dn) Y := LY
              have LX := LX.more kx
              have LY := LY.more kx
              clear hsm6 hb13 bx hb14 hb3 hS PP2 PF hbl hfit hbb6 hbs hfn hX hpl hY hdl6
              go_upto_region 10 with fail
              generalize w3.alloc (.cells #[.slice pq pl pn, .slice dq dl dn] 41) = w4 at *
              have BX := bg
              have KX := bgb
              have hF0 : Blk ((w4.setCell ⟨w.heap.size, 0, none⟩ (.slice pq pl pn)).setCell ⟨w.heap.size, 1, none⟩ (.slice dq dl dn)) w.heap.size #[.slice pq pl pn, .slice dq dl dn] 41 := (BX.set 0 _).set 1 _
              have hF1 : Below w.heap.size w ((w4.setCell ⟨w.heap.size, 0, none⟩ (.slice pq pl pn)).setCell ⟨w.heap.size, 1, none⟩ (.slice dq dl dn)) := (KX.setCell (p := ⟨w.heap.size, 0, none⟩) (Nat.le_refl _) _).setCell (p := ⟨w.heap.size, 1, none⟩) (Nat.le_refl _) _
              have hF2 : Keep (fun k => k = w.heap.size) w4 ((w4.setCell ⟨w.heap.size, 0, none⟩ (.slice pq pl pn)).setCell ⟨w.heap.size, 1, none⟩ (.slice dq dl dn)) := Keep.set (X := fun k => k = w.heap.size) (Keep.set (X := fun k => k = w.heap.size) (Keep.refl _ w4) (p := ⟨w.heap.size, 0, none⟩) (.inl rfl) _) (p := ⟨w.heap.size, 1, none⟩) (.inl rfl) _
              have cR0 := BX.cell 0
              have cR1 := BX.cell 1
              have fR := BX.free
              have HF := Lib.hid (And.intro hF0 (And.intro hF1 hF2))
              clear hF0 hF1 hF2 BX KX bg bgb
              have LX := Lib.hid ((LX.keep HF.out.2.2 (fun b' h1 h2 e => by have e' : b' = w.heap.size := e; omega)).base (G' := w.heap.size) (by omega)).lst
              have LY := Lib.hid ((LY.keep HF.out.2.2 (fun b' h1 h2 e => by have e' : b' = w.heap.size := e; omega)).base (G' := w.heap.size) (by omega)).lst
              generalize hgw : w.heap.size = g at *
              go_wp2
              exact bodyPost_ret (results_cell_tmp2 Tryz.results38 _ _ g 41 #[.slice pq pl pn, .slice dq dl dn] (0,0) _ rfl HF.out.1 Tryz.underlying41 rfl (by kernel_rfl)) rfl ⟨by rw [hgw]; exact HF.out.2.1, pq, dq, pl, pn, dl, dn, .inr ⟨X, Y, 12 + 0, HN.out.1, HN.out.2.1, HN.out.2.2.1, by push_cast; rfl, ⟨HN.out.2.2.2.1, HN.out.2.2.2.2.1⟩, ⟨HN.out.2.2.2.2.2.1, HN.out.2.2.2.2.2.2⟩, by rw [hgw]; exact LX.out, by rw [hgw]; exact LY.out⟩⟩
          · have HN := Lib.hid (frm_none HY.out.2.1 (show rdFrm bs = none by rw [HBB.out.2.2.2.1, if_neg (fun h => hke (HBB.out.2.2.2.2.2 h))]))
            have BX := HW.out.1.beyond hS
            have KX := HW.out.2.1.trans (hS.mono HW.out.2.1.size)
            clear hke PF PP2 hS
            have hF0 : Blk ((v1.setCell ⟨w.heap.size, 0, none⟩ (.slice none 0 0)).setCell ⟨w.heap.size, 1, none⟩ (.slice none 0 0)) w.heap.size #[.slice none 0 0, .slice none 0 0] 41 := (BX.set 0 _).set 1 _
            have hF1 : Below w.heap.size w ((v1.setCell ⟨w.heap.size, 0, none⟩ (.slice none 0 0)).setCell ⟨w.heap.size, 1, none⟩ (.slice none 0 0)) := (KX.setCell (p := ⟨w.heap.size, 0, none⟩) (Nat.le_refl _) _).setCell (p := ⟨w.heap.size, 1, none⟩) (Nat.le_refl _) _
            have cR0 := BX.cell 0
            have cR1 := BX.cell 1
            have fR := BX.free
            have HF := Lib.hid (And.intro hF0 (And.intro hF1 HN.out))
            clear hF0 hF1 BX KX
            generalize hgw : w.heap.size = g at *
            go_wp2
            exact bodyPost_ret (results_cell_tmp2 Tryz.results38 _ _ g 41 #[.slice none 0 0, .slice none 0 0] (0,0) _ rfl HF.out.1 Tryz.underlying41 rfl (by kernel_rfl)) rfl ⟨by rw [hgw]; exact HF.out.2.1, none, none, 0, 0, 0, 0, .inl ⟨HF.out.2.2, _, rfl⟩⟩
        · have HPP : (0 < N → (some ⟨b, o + 12, none⟩ : Option Addr) = some (⟨b, o + 12, none⟩ : Addr)) := fun _ => rfl
          have PF : ∀ w', Below w1.heap.size w1 w' → Calls Tryz.prog 47 #[.slice (some ⟨b, o + 12, none⟩) N (c - 12)] w' fun e w'' => ∃ p c', e = .returned (.slice p fl c') ∧ (convert 22 9 (.slice p fl c')).run Tryz.prog w'' = .ok (.string k1) w'' ∧ Below w'.heap.size w' w'' := fun w' hw' => by
            have := rframe body (some ⟨b, o + 12, none⟩) (c - 12) w' (HBB.out.2.1 _ HPP w' hw') HBB.out.1 (by rw [HBB.out.2.2.1]; omega)
            rw [HBB.out.2.2.1] at this
            refine this.mono ?_
            rintro e w'' ⟨p, c', o', rfl, R, ho, hb⟩
            obtain ⟨_, _, e2, hy2, _⟩ := R.form
            cases e2
            exact ⟨p, c', by rw [HK1.out.2], by rw [HK1.out.2, HK1.out.1]; exact conv_str hy2, hb⟩
          have PF := Lib.hid PF
          have PP2 : ∀ w', Below w1.heap.size w1 w' → Calls Tryz.prog 62 #[.slice (some ⟨b, o + 12, none⟩) N (c - 12)] w' (ReadPost body w') := fun w' hw' => by
            have := rparse body (some ⟨b, o + 12, none⟩) (c - 12) w' (HBB.out.2.1 _ HPP w' hw') HBB.out.1 (by rw [HBB.out.2.2.1]; omega) (by omega) (by rw [HBB.out.2.2.1]; omega)
            rw [HBB.out.2.2.1] at this; exact this
          have PP2 := Lib.hid PP2
          go_upto_region 7 with fail
          refine wp_region_held_drew (S := fun w' => Below w1.heap.size w1 w') (by kernel_rfl) ((Below.refl _ _).drew) (fun hS => ?_)
          refine tkH 0 (v := ?_) rfl (by kernel_rfl) ⟨by rfl, ?_⟩ hS ?_
          rotate_left
          · intro w0 hs; have hcv := HC8.out _ hs; go_simp; try (with_reducible rfl)
          try simp only [Act.put, List.setIfInBounds_toArray, List.set_cons_zero, List.set_cons_succ]
          refine tkH 1 (v := ?_) rfl (by kernel_rfl) ⟨by rfl, ?_⟩ hS ?_
          rotate_left
          · intro w0 hs; have hcv := HC8.out _ hs; go_simp; try (with_reducible rfl)
          try simp only [Act.put, List.setIfInBounds_toArray, List.set_cons_zero, List.set_cons_succ]
          refine tkH 2 (v := ?_) rfl (by kernel_rfl) ⟨by rfl, ?_⟩ hS ?_
          rotate_left
          · intro w0 hs; have hcv := HC8.out _ hs; go_simp; try (with_reducible rfl)
          try simp only [Act.put, List.setIfInBounds_toArray, List.set_cons_zero, List.set_cons_succ]
          refine tkH 5 (v := ?_) rfl (by kernel_rfl) ⟨by rfl, ?_⟩ hS ?_
          rotate_left
          · intro w0 hs; have hcv := HC8.out _ hs; go_simp; try (with_reducible rfl)
          try simp only [Act.put, List.setIfInBounds_toArray, List.set_cons_zero, List.set_cons_succ]
          refine tkH 6 (v := ?_) rfl (by kernel_rfl) ⟨by rfl, ?_⟩ hS ?_
          rotate_left
          · intro w0 hs; have hcv := HC8.out _ hs; go_simp; try (with_reducible rfl)
          try simp only [Act.put, List.setIfInBounds_toArray, List.set_cons_zero, List.set_cons_succ]
          refine tkH 7 (v := ?_) rfl (by kernel_rfl) ⟨by rfl, ?_⟩ hS ?_
          rotate_left
          · intro w0 hs; have hcv := HC8.out _ hs; go_simp; try (with_reducible rfl)
          try simp only [Act.put, List.setIfInBounds_toArray, List.set_cons_zero, List.set_cons_succ]
          refine tkH 8 (v := ?_) rfl (by kernel_rfl) ⟨by rfl, ?_⟩ hS ?_
          rotate_left
          · intro w0 hs; have hcv := HC8.out _ hs; go_simp; try (with_reducible rfl)
          try simp only [Act.put, List.setIfInBounds_toArray, List.set_cons_zero, List.set_cons_succ]
          refine wpAnyH_ready (rs := [3]) (by kernel_rfl) (by simp) ?_
          refine AllReadyH.cons (o := ⟨_, _, _, _, _, _⟩) rfl (fun K hK => ?_) AllReadyH.nil
          rw [if_pos (by rfl)]
          go_step
          refine (PF.out _ hS).mono ?_
          rintro e v1 ⟨p2, c2, rfl, hcv2, hb1⟩
          simp only []
          refine hK.out _ _ (hS.trans (hb1.mono hS.size)) (fun hS' => ?_)
          clear hS hK
          have hS := hS'; clear hS'
          try simp only [Act.put, List.setIfInBounds_toArray, List.set_cons_zero, List.set_cons_succ]
          refine wpAnyH_ready (rs := [4]) (by kernel_rfl) (by simp) ?_
          refine AllReadyH.cons (o := ⟨_, _, _, _, _, _⟩) rfl (fun K hK => ?_) AllReadyH.nil
          rw [if_pos (by rfl)]
          go_simp
          refine hK.out _ _ hS (fun hS' => ?_)
          clear hS hK
          have hS := hS'; clear hS'
          try simp only [Act.put, List.setIfInBounds_toArray, List.set_cons_zero, List.set_cons_succ]
          refine tkH 9 (v := ?_) rfl (by kernel_rfl) ⟨by rfl, ?_⟩ hS ?_
          rotate_left
          · intro w0 hs; have hcv := HC8.out _ hs; go_simp; try (with_reducible rfl)
          try simp only [Act.put, List.setIfInBounds_toArray, List.set_cons_zero, List.set_cons_succ]
          refine wpAnyH_done (by kernel_rfl) ?_ _
          rcases HKK.out with ⟨hke, hkb⟩ | ⟨hke, hkb⟩
          all_goals simp only [hkb, Bool.not_true, Bool.not_false]
          · have hsm : rdFrm bs = some body := by rw [HBB.out.2.2.2.1, if_pos (HBB.out.2.2.2.2.1 hke)]
            have HSM := Lib.hid hsm
            have hbl : body.length = N := HBB.out.2.2.1
            clear hsm hke
            go_wp2_with fail
            refine (PP2.out _ hS).mono ?_
            rintro e w3 ⟨hb3, pq, dq, pl, pn, dl, dn, hcase⟩
            have hb13 : Below w1.heap.size w1 w3 := hS.trans (hb3.mono hS.size)
            have bx := Blk.new w3 #[.slice pq pl pn, .slice dq dl dn] 41
            have kx := (Below.refl w3.heap.size w3).alloc (Nat.le_refl _) (.cells #[.slice pq pl pn, .slice dq dl dn] 41)
            have hb14 := hb13.trans (kx.mono hb13.size)
            have bg := HW.out.1.beyond hb14
            have bgb : Below w.heap.size w (w3.alloc (.cells #[.slice pq pl pn, .slice dq dl dn] 41)) := HW.out.2.1.trans (hb14.mono HW.out.2.1.size)
            have hv1 : w1.heap.size ≤ v1.heap.size := hS.size
            have hw1s : w1.heap.size = w.heap.size + 1 := HW.out.2.2
            have cb0 := bx.cell 0
            have cb1 := bx.cell 1
            rcases hcase with ⟨hn6, rfl⟩ | ⟨X, Y, hsm6, rfl, ⟨hX, hpl⟩, ⟨hY, hdl6⟩, LX, LY⟩
            · have HN := Lib.hid (bat_none HY.out.2.1 HSM.out hn6)
              clear hn6 hb13 bx hb14 hb3 hS PP2 PF hbl
              go_upto_region 10 with fail
              generalize w3.alloc (.cells #[.slice pq pl pn, .slice dq dl dn] 41) = w4 at *
              have BX := bg
              have KX := bgb
              have hF0 : Blk ((w4.setCell ⟨w.heap.size, 0, none⟩ (.slice pq pl pn)).setCell ⟨w.heap.size, 1, none⟩ (.slice dq dl dn)) w.heap.size #[.slice pq pl pn, .slice dq dl dn] 41 := (BX.set 0 _).set 1 _
              have hF1 : Below w.heap.size w ((w4.setCell ⟨w.heap.size, 0, none⟩ (.slice pq pl pn)).setCell ⟨w.heap.size, 1, none⟩ (.slice dq dl dn)) := (KX.setCell (p := ⟨w.heap.size, 0, none⟩) (Nat.le_refl _) _).setCell (p := ⟨w.heap.size, 1, none⟩) (Nat.le_refl _) _
              have hF2 : Keep (fun k => k = w.heap.size) w4 ((w4.setCell ⟨w.heap.size, 0, none⟩ (.slice pq pl pn)).setCell ⟨w.heap.size, 1, none⟩ (.slice dq dl dn)) := Keep.set (X := fun k => k = w.heap.size) (Keep.set (X := fun k => k = w.heap.size) (Keep.refl _ w4) (p := ⟨w.heap.size, 0, none⟩) (.inl rfl) _) (p := ⟨w.heap.size, 1, none⟩) (.inl rfl) _
              have cR0 := BX.cell 0
              have cR1 := BX.cell 1
              have fR := BX.free
              have HF := Lib.hid (And.intro hF0 (And.intro hF1 hF2))
              clear hF0 hF1 hF2 BX KX bg bgb
              generalize hgw : w.heap.size = g at *
              go_wp2
              exact bodyPost_ret (results_cell_tmp2 Tryz.results38 _ _ g 41 #[.slice pq pl pn, .slice dq dl dn] (0,0) _ rfl HF.out.1 Tryz.underlying41 rfl (by kernel_rfl)) rfl ⟨by rw [hgw]; exact HF.out.2.1, pq, dq, pl, pn, dl, dn, .inl ⟨HN.out, _, rfl⟩⟩
            · obtain ⟨hfit, hbb6, hbs⟩ := frm_some HY.out.2.1 HSM.out hsm6
              have hfn : 12 + N = (frmX ⟨X.map pairX, Y.map bsK⟩).length := by unfold frmX; rw [frmB_len, ← hbb6, hbl]
              rw [hbl] at hbs
              have HN := Lib.hid (And.intro hfit (And.intro hfn (And.intro hbs (And.intro hX (And.intro hpl (And.intro hY hdl6))))))
              obtain ⟨oX, LX⟩ := LX
              obtain ⟨oY, LY⟩ := LY
              have LX : LstO pairK 58 w3 v1.heap.size oX (.slice pq pl pn) X := LX
              have LY : LstO strK 9 w3 v1.heap.size oY (.slice dq dl dn) Y := LY
              have LX := LX.more kx
              have LY := LY.more kx
              clear hsm6 hb13 bx hb14 hb3 hS PP2 PF hbl hfit hbb6 hbs hfn hX hpl hY hdl6
              go_upto_region 10 with fail
              generalize w3.alloc (.cells #[.slice pq pl pn, .slice dq dl dn] 41) = w4 at *
              have BX := bg
              have KX := bgb
              have hF0 : Blk ((w4.setCell ⟨w.heap.size, 0, none⟩ (.slice pq pl pn)).setCell ⟨w.heap.size, 1, none⟩ (.slice dq dl dn)) w.heap.size #[.slice pq pl pn, .slice dq dl dn] 41 := (BX.set 0 _).set 1 _
              have hF1 : Below w.heap.size w ((w4.setCell ⟨w.heap.size, 0, none⟩ (.slice pq pl pn)).setCell ⟨w.heap.size, 1, none⟩ (.slice dq dl dn)) := (KX.setCell (p := ⟨w.heap.size, 0, none⟩) (Nat.le_refl _) _).setCell (p := ⟨w.heap.size, 1, none⟩) (Nat.le_refl _) _
              have hF2 : Keep (fun k => k = w.heap.size) w4 ((w4.setCell ⟨w.heap.size, 0, none⟩ (.slice pq pl pn)).setCell ⟨w.heap.size, 1, none⟩ (.slice dq dl dn)) := Keep.set (X := fun k => k = w.heap.size) (Keep.set (X := fun k => k = w.heap.size) (Keep.refl _ w4) (p := ⟨w.heap.size, 0, none⟩) (.inl rfl) _) (p := ⟨w.heap.size, 1, none⟩) (.inl rfl) _
              have cR0 := BX.cell 0
              have cR1 := BX.cell 1
              have fR := BX.free
              have HF := Lib.hid (And.intro hF0 (And.intro hF1 hF2))
              clear hF0 hF1 hF2 BX KX bg bgb
              have LX := Lib.hid ((LX.keep HF.out.2.2 (fun b' h1 h2 e => by have e' : b' = w.heap.size := e; omega)).base (G' := w.heap.size) (by omega)).lst
              have LY := Lib.hid ((LY.keep HF.out.2.2 (fun b' h1 h2 e => by have e' : b' = w.heap.size := e; omega)).base (G' := w.heap.size) (by omega)).lst
              generalize hgw : w.heap.size = g at *
              go_wp2
              exact bodyPost_ret (results_cell_tmp2 Tryz.results38 _ _ g 41 #[.slice pq pl pn, .slice dq dl dn] (0,0) _ rfl HF.out.1 Tryz.underlying41 rfl (by kernel_rfl)) rfl ⟨by rw [hgw]; exact HF.out.2.1, pq, dq, pl, pn, dl, dn, .inr ⟨X, Y, 12 + N, HN.out.1, HN.out.2.1, HN.out.2.2.1, by push_cast; rfl, ⟨HN.out.2.2.2.1, HN.out.2.2.2.2.1⟩, ⟨HN.out.2.2.2.2.2.1, HN.out.2.2.2.2.2.2⟩, by rw [hgw]; exact LX.out, by rw [hgw]; exact LY.out⟩⟩
          · have HN := Lib.hid (frm_none HY.out.2.1 (show rdFrm bs = none by rw [HBB.out.2.2.2.1, if_neg (fun h => hke (HBB.out.2.2.2.2.2 h))]))
            have BX := HW.out.1.beyond hS
            have KX := HW.out.2.1.trans (hS.mono HW.out.2.1.size)
            clear hke PF PP2 hS
            have hF0 : Blk ((v1.setCell ⟨w.heap.size, 0, none⟩ (.slice none 0 0)).setCell ⟨w.heap.size, 1, none⟩ (.slice none 0 0)) w.heap.size #[.slice none 0 0, .slice none 0 0] 41 := (BX.set 0 _).set 1 _
            have hF1 : Below w.heap.size w ((v1.setCell ⟨w.heap.size, 0, none⟩ (.slice none 0 0)).setCell ⟨w.heap.size, 1, none⟩ (.slice none 0 0)) := (KX.setCell (p := ⟨w.heap.size, 0, none⟩) (Nat.le_refl _) _).setCell (p := ⟨w.heap.size, 1, none⟩) (Nat.le_refl _) _
            have cR0 := BX.cell 0
            have cR1 := BX.cell 1
            have fR := BX.free
            have HF := Lib.hid (And.intro hF0 (And.intro hF1 HN.out))
            clear hF0 hF1 BX KX
            generalize hgw : w.heap.size = g at *
            go_wp2
            exact bodyPost_ret (results_cell_tmp2 Tryz.results38 _ _ g 41 #[.slice none 0 0, .slice none 0 0] (0,0) _ rfl HF.out.1 Tryz.underlying41 rfl (by kernel_rfl)) rfl ⟨by rw [hgw]; exact HF.out.2.1, none, none, 0, 0, 0, 0, .inl ⟨HF.out.2.2, _, rfl⟩⟩
end Go.Proofs.YtbjbjgfjaopibaaGreatDoor
end
