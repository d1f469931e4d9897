/- The walks of layer 15: Crash, Copy, Of, New. -/
import Derived.Test.YtfeljjbelnlojaaTapeB
import Derived.Test.YtfeljjbelnlojaaRegion
namespace Go.Proofs.Ytfeljjbelnlojaa
open Go Go.RowKit
set_option linter.unusedSimpArgs false

/-- how many bytes a crash leaves -/
def crashN (len : Nat) (sy n : Int) : Nat := (sy + max 0 (min n (len - sy))).toNat
theorem crashN_le (len : Nat) (sy n : Int) (h0 : 0 ≤ sy) (h1 : sy ≤ len) : crashN len sy n ≤ len ∧ sy ≤ crashN len sy n ∧ sy + max 0 (min n (len - sy)) = (crashN len sy n : Int) := by unfold crashN; omega
set_option maxHeartbeats 800000 in
theorem tcrash (p : Nat) (xs : List Int) (sy ro fu n : Int) (o : Option Nat) (w : World) (h : TapeAt w p xs sy ro fu o) (hl : xs.length ≤ 16777216) (hs0 : 0 ≤ sy) (hs1 : sy ≤ xs.length) :
    Calls Try.prog 14 #[.pointer (some ⟨p, 0, none⟩), .int .i64 n] w fun e w' => e = .returned (.int .i64 0) ∧ TapeAt w' p (xs.take (crashN xs.length sy n)) (crashN xs.length sy n) ro (-1) o ∧ Keep (foot p o) w w' := by
  obtain ⟨v, h1, h2, h3⟩ := h
  have P := Lib.hid (tnobody p true w (h1.cell 0))
  have H2 := Lib.hid h2
  have H3 := Lib.hid h3
  have H1 := Lib.hid h1
  obtain ⟨q2, c2, rfl, hb2, hle2, hm2, hq2⟩ := h2.form
  obtain ⟨k1, k2, k3⟩ := crashN_le xs.length sy n hs0 hs1
  have PK := Lib.hid (tkeep p (.bool true) (.int .i64 sy) (.int .i64 ro) (.int .i64 fu) q2 xs.length c2 (crashN xs.length sy n) w.drew h1.drew (by omega))
  generalize crashN xs.length sy n = N at *
  have c1 := h1.cell
  have i1 := IntWalk.i64_in ((xs.length : Int) - sy) (by omega)
  have i2 : IntKind.i64.wrap (sy + max 0 (min n ((xs.length : Int) - sy))) = (N : Int) := by rw [k3]; exact IntWalk.i64_in _ (by omega)
  clear h1 h2 h3 hb2 hq2
  go_enter Try.func14, Try.ntmps14
  go_wp2_with fail
  refine P.out.mono ?_
  rintro e w1 ⟨rfl, rfl⟩
  go_wp2_with fail
  go_still_tail 19, (by kernel_rfl)
  change wpList _ _ _ _ _ w.drew
  go_wp2_with fail
  refine PK.out.mono ?_
  rintro e w2 ⟨rfl, b2, k2⟩
  have R2 := H2.out.keep (((Keep.refl (fun k => k = p) w).drew).trans k2) (fun g hg e => H3.out (by rw [hg, e]))
  have K2 := Lib.hid k2
  have B2 := Lib.hid b2
  have RR := Lib.hid R2
  have c2' := b2.cell
  have f2 := b2.free
  clear k2 b2 R2 c1 i1 i2
  go_wp2
  go_ret
  have K := Keep.set (X := fun k => k = p) (Keep.refl _ w2) (p := ⟨p, 4, none⟩) (.inl rfl) (.int .i64 (-1))
  exact ⟨rfl, ⟨_, B2.out.set 4 _, (RR.out.keep K (fun g hg e => H3.out (by rw [hg, e]))).cut k1, H3.out⟩, ((((Keep.refl (fun k => k = p) w).drew).trans K2.out).trans K).mono fun k e => .inl e⟩
theorem clone_row (v : Value) (xs : List Int) (o : Option Nat) (w : World) (h : Row w 5 v xs o) (hl : xs.length ≤ 140737488355328) :
    Calls Try.prog 16 #[v] w fun e w' => ∃ q c o', e = .returned (.slice q xs.length c) ∧ Row w' 5 (.slice q xs.length c) xs o' ∧ (∀ g, o' = some g → w.heap.size ≤ g) ∧ Below w.heap.size w w' := by
  obtain ⟨q, cc, rfl, hb, hle, hm, hq⟩ := h.form
  rcases hq with ⟨rfl, rfl, rfl, rfl⟩ | ⟨g, rfl, rfl, hg⟩
  · refine (Try.bytes_Clone_nil 0 0 w).mono ?_
    rintro e w1 ⟨rfl, rfl⟩
    exact ⟨none, 0, none, rfl, Row.nil _ _, fun g hg => by (cases hg), Below.refl _ _⟩
  · refine (Try.bytes_Clone_at ⟨g, 0, none⟩ xs.length cc xs w rfl hl (fun i hi => by
      obtain ⟨b, o2, e1, hc⟩ := hb.at (by omega)
      simp at e1; obtain ⟨rfl, rfl⟩ := e1
      rw [Addr.add_lit]; exact hc i hi)).mono ?_
    rintro e w1 ⟨v', rfl, hown, hne, hbel⟩
    obtain ⟨o', r1, r2, r3⟩ := Row.of_owns hown
    obtain ⟨q', c', rfl, _⟩ := r1.form
    exact ⟨q', c', o', rfl, r1, fun g hg => (r2 g hg).1, hbel⟩
/-- Clone of an argument's bytes -/
theorem clone_arg (q : Option Addr) (c : Nat) (xs : List Int) (w : World) (h : Lib.BytesIn w q xs.length xs) (hl : xs.length ≤ 140737488355328) :
    Calls Try.prog 16 #[.slice q xs.length c] w fun e w' => ∃ q c o', e = .returned (.slice q xs.length c) ∧ Row w' 5 (.slice q xs.length c) xs o' ∧ (∀ g, o' = some g → w.heap.size ≤ g) ∧ Below w.heap.size w w' := by
  cases q with
  | none =>
    have h0 : xs = [] := by
      apply Classical.byContradiction; intro hne
      obtain ⟨b, o, e, _⟩ := h.at (List.length_pos_iff.2 hne)
      cases e
    subst h0
    refine (Try.bytes_Clone_nil 0 c w).mono ?_
    rintro e w1 ⟨rfl, rfl⟩
    exact ⟨none, 0, none, rfl, Row.nil _ _, fun g hg => by (cases hg), Below.refl _ _⟩
  | some a =>
    refine (Try.bytes_Clone_at a xs.length c xs w rfl hl (fun i hi => by
      obtain ⟨b, o2, e1, hc⟩ := h.at (by omega)
      simp at e1; subst e1
      rw [Addr.add_lit]; exact hc i hi)).mono ?_
    rintro e w1 ⟨v', rfl, hown, hne, hbel⟩
    obtain ⟨o', r1, r2, r3⟩ := Row.of_owns hown
    obtain ⟨q', c', rfl, _⟩ := r1.form
    exact ⟨q', c', o', rfl, r1, fun g hg => (r2 g hg).1, hbel⟩
/-- Of's answer -/
def ofE (len : Nat) (ro : Int) : Int := if ro < 0 ∨ 16777216 < ro ∨ ro < len then 1 else 0
theorem tof_bad (q : Option Addr) (c n : Nat) (ro : Int) (w : World) (h : ro < 0 ∨ 16777216 < ro ∨ ro < n) :
    Calls Try.prog 20 #[.slice q n c, .int .i64 ro] w fun e w' => e = .returned (.tuple #[.pointer none, .int .i64 1]) ∧ w = w' := by
  by_cases h0 : ro < 0
  · have d1 : decide (ro < 0) = true := decide_eq_true h0
    clear h
    go_enter Try.func20, Try.ntmps20
    go_wp2
    go_ret2
    exact ⟨rfl, rfl⟩
  · have d1 : decide (ro < 0) = false := decide_eq_false h0
    by_cases h1 : 16777216 < ro
    · have d2 : decide (16777216 < ro) = true := decide_eq_true h1
      clear h
      go_enter Try.func20, Try.ntmps20
      go_wp2
      go_ret2
      exact ⟨rfl, rfl⟩
    · have d2 : decide (16777216 < ro) = false := decide_eq_false h1
      have d3 : decide (ro < (n : Int)) = true := decide_eq_true (by omega)
      clear h
      go_enter Try.func20, Try.ntmps20
      go_wp2
      go_ret2
      exact ⟨rfl, rfl⟩
theorem tof (q : Option Addr) (c : Nat) (xs : List Int) (ro : Int) (w : World) (hx : Lib.BytesIn w q xs.length xs) (h0 : 0 ≤ ro) (h1 : ro ≤ 16777216) (h2 : xs.length ≤ ro) :
    Calls Try.prog 20 #[.slice q xs.length c, .int .i64 ro] w fun e w' => ∃ p o, e = .returned (.tuple #[.pointer (some ⟨p, 0, none⟩), .int .i64 0]) ∧ TapeAt w' p xs xs.length ro (-1) o ∧ w.heap.size ≤ p ∧ (∀ g, o = some g → w.heap.size ≤ g) ∧ Below w.heap.size w w' := by
  have P := Lib.hid (clone_arg q c xs w hx (by omega))
  have d1 : decide (ro < 0) = false := decide_eq_false (by omega)
  have d2 : decide (16777216 < ro) = false := decide_eq_false (by omega)
  have d3 : decide (ro < (xs.length : Int)) = false := decide_eq_false (by omega)
  clear hx
  go_enter Try.func20, Try.ntmps20
  go_wp2_with fail
  refine P.out.mono ?_
  rintro e w1 ⟨q', c', o', rfl, hr, ho, hb⟩
  have HR := Lib.hid hr
  have HO := Lib.hid ho
  have HB := Lib.hid hb
  clear hr ho hb
  go_wp2
  go_ret2
  have hlt := HR.out.lt
  exact ⟨w1.heap.size, o', rfl, ⟨_, Blk.new _ _ _, HR.out.keep ((Keep.refl (fun _ => False) w1).alloc _) (fun _ _ h => h), fun e => by have := hlt _ e; omega⟩, HB.out.size, HO.out, HB.out.alloc HB.out.size _⟩
theorem tnew (ro : Int) (w : World) (h0 : 0 ≤ ro) (h1 : ro ≤ 16777216) :
    Calls Try.prog 8 #[.int .i64 ro] w fun e w' => ∃ p o, e = .returned (.tuple #[.pointer (some ⟨p, 0, none⟩), .int .i64 0]) ∧ TapeAt w' p [] 0 ro (-1) o ∧ w.heap.size ≤ p ∧ (∀ g, o = some g → w.heap.size ≤ g) ∧ Below w.heap.size w w' := by
  have P := Lib.hid (tof none 0 [] ro w (Lib.BytesIn.nil _ _ _) h0 h1 (by simpa using h0))
  go_enter Try.func8, Try.ntmps8
  go_wp2_with fail
  refine P.out.mono ?_
  rintro e w1 ⟨p, o, rfl, hr⟩
  have HR := Lib.hid hr
  clear hr
  go_wp2
  go_ret2
  exact ⟨p, o, rfl, HR.out⟩
set_option maxHeartbeats 800000 in
theorem tcopy (p : Nat) (xs : List Int) (sy ro fu : Int) (o : Option Nat) (w : World) (h : TapeAt w p xs sy ro fu o) (hl : xs.length ≤ 140737488355328) :
    Calls Try.prog 19 #[.pointer (some ⟨p, 0, none⟩)] w fun e w' => ∃ p' o', e = .returned (.pointer (some ⟨p', 0, none⟩)) ∧ TapeAt w' p' xs sy ro fu o' ∧ w.heap.size ≤ p' ∧ (∀ g, o' = some g → w.heap.size ≤ g) ∧ Below w.heap.size w w' := by
  obtain ⟨v, h1, h2, h3⟩ := h
  have P := Lib.hid (tnobody p true w (h1.cell 0))
  have H2 := Lib.hid h2
  have H3 := Lib.hid h3
  have H1 := Lib.hid h1
  have c1 := h1.cell
  have l1 := h1.lt
  obtain ⟨q2, c2, rfl, hb2, hle2, hm2, hq2⟩ := h2.form
  clear h1 h2 h3 hb2 hq2
  go_enter Try.func19, Try.ntmps19
  go_wp2_with fail
  refine P.out.mono ?_
  rintro e w1 ⟨rfl, rfl⟩
  go_upto_region 4 with fail
  have PC := Lib.hid (clone_row _ xs o _ (H2.out.keep ((Keep.refl (fun _ => False) w).alloc (.cells #[.bool true, .slice q2 xs.length c2, .int .i64 sy, .int .i64 ro, .int .i64 fu] 42)) (fun _ _ h => h)) hl)
  have BN := Lib.hid (Blk.new w #[.bool true, .slice q2 xs.length c2, .int .i64 sy, .int .i64 ro, .int .i64 fu] 42)
  have CN := BN.out.alloc
  clear CN
  go_wp2_with fail
  refine PC.out.mono ?_
  rintro e w2 ⟨q', c', o', rfl, hr, ho, hb⟩
  have b2 := BN.out.beyond hb
  have HR := Lib.hid hr
  have HO := Lib.hid ho
  have HB := Lib.hid hb
  have B2 := Lib.hid b2
  have c2' := b2.cell
  have f2 := b2.free
  clear hr ho hb b2 c1
  go_wp2
  go_ret
  have hop : o' ≠ some w.heap.size := fun e => by have h := HO.out _ e; rw [show ∀ o : Obj, (w.alloc o).heap.size = w.heap.size + 1 from fun o => by simp] at h; omega
  have K := Keep.set (X := fun k => k = w.heap.size) (Keep.refl _ w2) (p := ⟨w.heap.size, 1, none⟩) (.inl rfl) (.slice q' xs.length c')
  have hsz := HB.out.size
  refine ⟨w.heap.size, o', rfl, ⟨_, B2.out.set 1 _, HR.out.keep K (fun g hg e => hop (by rw [hg, e])), hop⟩, Nat.le_refl _, fun g hg => by have h := HO.out g hg; rw [show ∀ o : Obj, (w.alloc o).heap.size = w.heap.size + 1 from fun o => by simp] at h; omega, ?_⟩
  exact ((((Below.refl w.heap.size w).alloc (Nat.le_refl _) _).trans (HB.out.mono (by simp))).setCell (p := ⟨w.heap.size, 1, none⟩) (Nat.le_refl _) _)
end Go.Proofs.Ytfeljjbelnlojaa
