import Derived.Test.YtppcccocnmhbgaaFl21
import Derived.Test.YtppcccocnmhbgaaFl18
import Derived.Test.YtppcccocnmhbgaaFl4
import Derived.Test.YtppcccocnmhbgaaFl24
import Derived.Test.YtppcccocnmhbgaaFl25
import Derived.Test.YtppcccocnmhbgaaFl22
import Derived.Test.YtppcccocnmhbgaaFl6
import Derived.Lib.SliceRun
import Derived.Test.YtppcccocnmhbgaaFl20
section
/- Texts and SameTexts of what the statements share. -/
namespace Go.Proofs.Ytppcccocnmhbgaa
open Go Go.RowKit
set_option linter.unusedSimpArgs false
set_option linter.unusedVariables false
set_option maxRecDepth 100000

/-- a row of its own put behind -/
theorem ListOf.add {w0 w : World} {G : Nat} {v : Value} {Zs : List (List Int)} (h : ListOf w0 G v Zs) (hb : Below w0.heap.size w0 w) (hG : G ≤ w0.heap.size) (hl : Zs.length ≤ 5000000000000) {A : Option Addr} {C : Nat} {Z : List Int} (hR : RowOf w (.slice A Z.length C) A C Z) (hq : ∀ q, A = some q → w0.heap.size ≤ q.block ∧ q.block < w.heap.size) :
    ∃ q n c w', v = .slice q Zs.length n ∧ (Builtin.append_ #[24, 24] 24 #[v, .slice (some ⟨w.heap.size, 0, none⟩) 1 1]).run Try.prog (w.alloc (.cells #[.slice A Z.length C] 26)) = .ok c w' ∧ ListOf w' G c (Zs ++ [Z]) ∧ Below G w w' := by
  obtain ⟨i0, hi, hz0, hz1, hz2⟩ := info_parts rowinfo
  obtain ⟨cs, o, h1, h2, h3⟩ := h
  have kb := Keep.of_below (X := fun _ => False) hb
  have rv := h1.keep kb (fun _ _ h => h)
  have ra := h3.keep kb (fun g hg => hg.elim)
  have ho : ∀ g, o = some g → g < w0.heap.size := fun g hg => h1.lt g hg
  obtain ⟨g5, c5, w5, run5, rv5, ho5, hk5⟩ := rowV_append1 (P := Try.prog) 24 24 i0 (.slice none 0 0) Try.underlying24 hi hz0 hz1 hz2 rfl rv (.slice A Z.length C) rfl (by unfold maxLen; omega) (by omega)
  obtain ⟨q, n, rfl, _⟩ := h1.form
  have hmv : some g5 = o ∨ ∃ g, some g5 = some g ∧ w.heap.size ≤ g := by
    rcases ho5 with h | h
    · exact .inl h.symm
    · exact .inr ⟨g5, rfl, h⟩
  have ra6 := (ra.snoc hR (fun q hq' => ⟨Nat.le_trans hG (hq q hq').1, fun e => by have := ho _ e; have := (hq q hq').1; omega, (hq q hq').2⟩)).grow hk5 hmv
  have e5 : (Zs ++ [Z]).length = Zs.length + 1 := by simp
  refine ⟨q, n, _, w5, rfl, run5, ⟨_, some g5, by rw [e5]; exact rv5, fun g hg => ?_, ra6⟩, hk5.below (Nat.le_trans hG hb.size) (fun g hg => h2 _ hg)⟩
  cases hg
  rcases ho5 with h | h
  · exact h2 _ h
  · have := hb.size; omega
theorem ListOf.nil (w : World) (G : Nat) : ListOf w G (.slice none 0 0) [] := ⟨[], none, RowV.nil _ _ _, fun g hg => (by cases hg), RowsAt.nil _ _ _⟩
theorem ListOf.more {w w' : World} {G : Nat} {v : Value} {Zs : List (List Int)} (h : ListOf w G v Zs) (hb : Below w.heap.size w w') : ListOf w' G v Zs := by
  obtain ⟨cs, o, h1, h2, h3⟩ := h
  have kb := Keep.of_below (X := fun _ => False) hb
  exact ⟨cs, o, h1.keep kb (fun _ _ h => h), h2, h3.keep kb (fun g hg => hg.elim)⟩
theorem map_range_succ {α : Type} (Z : Nat → α) (k : Nat) : (List.range (k + 1)).map Z = (List.range k).map Z ++ [Z k] := by rw [List.range_succ, List.map_append]; rfl
set_option maxHeartbeats 3200000 in
theorem ptexts (a0 : Option Addr) (len cap : Nat) (A : Nat → Option Addr) (C : Nat → Nat) (Z : Nat → List Int) (w : World) (hR : RowsIn w a0 len A C Z) (hl : len ≤ 5000000000000) :
    Calls Try.prog 10 #[.slice a0 len cap] w fun e w' => (∃ v, e = .returned v ∧ ListOf w' w.heap.size v ((List.range len).map Z)) ∧ Below w.heap.size w w' := by
  have HR := Lib.hid hR
  clear hR
  go_enter Try.func10, Try.ntmps10
  go_wp2
  go_loopg [3, 8] len (fun gh v i wx => ∃ k : Nat, k ≤ len ∧ i = .int .i64 (k : Int) ∧ gh = len - k ∧ Hid (ListOf wx w.heap.size v ((List.range k).map Z) ∧ Below w.heap.size w wx))
  case atStart => exact ⟨0, Nat.zero_le _, rfl, rfl, ListOf.nil _ _, Below.refl _ _⟩
  case round =>
    obtain ⟨k, hk, rfl, hg, HK⟩ := hrel
    have HG := Lib.hid hg
    clear hg
    by_cases hlt : k < len
    · obtain ⟨b, off, rfl, hc, hrow⟩ := (HR.out.below HK.out.2) k hlt
      have PC := bclone (A k) (C k) (Z k) wr hrow.bytes (by have := hrow.len; omega) hrow.none hrow.cap
      have HROW := Lib.hid (And.intro hrow.len hrow.range)
      obtain ⟨q, n, _, hv⟩ : ∃ q n, ((List.range k).map Z).length = k ∧ _ = Value.slice q ((List.range k).map Z).length n := by
        obtain ⟨q, n, _, _, e, _⟩ := HK.out.1.rows
        exact ⟨q, n, by simp, e⟩
      rw [show ((List.range k).map Z).length = k from by simp] at hv
      subst hv
      obtain ⟨z, hz⟩ : ∃ z, z = (Z k).length := ⟨_, rfl⟩
      rw [← hz] at hc PC
      have PC := Lib.hid PC
      have HZ := Lib.hid hz
      clear hrow hz
      go_wp2_with fail
      refine PC.out.mono ?_
      rintro e w4 ⟨p4, c4, o4, rfl, R4, ho4, hb4⟩
      rw [HZ.out] at R4 ⊢
      obtain ⟨r4, hp4⟩ := rowOf_clone R4 HROW.out.1 HROW.out.2
      obtain ⟨q5, n5, v5, w5, hv5, run5, hL5, hb5⟩ := HK.out.1.add hb4 HK.out.2.size (by simp; omega) r4 (fun q hq => ⟨ho4 _ (hp4 q hq), R4.lt _ (hp4 q hq)⟩)
      have H5 := Lib.hid (And.intro hL5 (HK.out.2.trans ((hb4.mono HK.out.2.size).trans hb5)))
      clear R4 ho4 hb4 r4 hp4 hL5 hb5 hv5
      generalize (Z k).length = zk at *
      go_wp2_with (at_builtin; refine wpl_append rfl _ _ 24 rfl rfl rfl run5 ?_)
      go_roundg (len - (k + 1))
      case measure => rw [HG.out]; omega
      case rel => exact ⟨k + 1, hlt, rfl, rfl, by rw [map_range_succ]; exact H5.out.1, H5.out.2⟩
    · obtain rfl : k = len := by omega
      go_wp2
      go_ret
      exact ⟨⟨_, rfl, HK.out.1⟩, HK.out.2⟩
set_option maxHeartbeats 3200000 in
/-- the same texts are found to be so -/
theorem equal_rows (a0 b0 : Option Addr) (len ca cb : Nat) (A A' : Nat → Option Addr) (C C' : Nat → Nat) (Z Z' : Nat → List Int) (w : World) (hR : RowsIn w a0 len A C Z) (hR' : RowsIn w b0 len A' C' Z') (hZ : ∀ i, i < len → Z i = Z' i) (hl : len ≤ 9223372036854775807) :
    Calls Try.prog 43 #[.slice a0 len ca, .slice b0 len cb, .func (.func 13) #[] #[]] w fun e w' => e = .returned (.bool true) ∧ w = w' := by
  have HR := Lib.hid (And.intro hR (And.intro hR' hZ))
  clear hR hR' hZ
  have hne : ((len : Int) != (len : Int)) = false := bne_self_eq_false _
  go_enter Try.func43, Try.ntmps43
  go_wp2
  go_loopg [17] len (fun gh i wx => ∃ k : Nat, k ≤ len ∧ i = .int .i64 (k : Int) ∧ gh = len - k ∧ wx = w)
  case atStart => exact ⟨0, Nat.zero_le _, rfl, rfl, rfl⟩
  case round =>
    obtain ⟨k, hk, rfl, hg, hwx⟩ := hrel
    have HG := Lib.hid hg
    obtain rfl : w = wr := hwx.symm
    clear hg
    by_cases hlt : k < len
    · obtain ⟨b, off, rfl, hc, hrow⟩ := HR.out.1 k hlt
      obtain ⟨b', off', rfl, hc', hrow'⟩ := HR.out.2.1 k hlt
      have PE := Try.bytes_Equal_all (A k) (A' k) (Z k).length (C k) (Z' k).length (C' k) (Z k) (Z' k) w rfl rfl hrow.bytes hrow'.bytes
      rw [HR.out.2.2 k hlt] at PE hc
      rw [beq_self_eq_true] at PE
      have PE := Lib.hid PE
      generalize (Z' k).length = z at *
      clear hrow hrow'
      go_wp2_with fail
      refine PE.out.mono ?_
      rintro e w' ⟨rfl, hw'⟩
      obtain rfl : w = w' := hw'.symm
      go_wp2
      go_roundg (len - (k + 1))
      case measure => rw [HG.out]; omega
      case rel => exact ⟨k + 1, hlt, rfl, rfl, rfl⟩
    · obtain rfl : k = len := by omega
      go_wp2
      go_ret
      exact ⟨rfl, rfl⟩
theorem same_rows (a0 b0 : Option Addr) (len ca cb : Nat) (A A' : Nat → Option Addr) (C C' : Nat → Nat) (Z Z' : Nat → List Int) (w : World) (hR : RowsIn w a0 len A C Z) (hR' : RowsIn w b0 len A' C' Z') (hZ : ∀ i, i < len → Z i = Z' i) (hl : len ≤ 9223372036854775807) :
    Calls Try.prog 14 #[.slice a0 len ca, .slice b0 len cb] w fun e w' => e = .returned (.bool true) ∧ w = w' := by
  have P := Lib.hid (equal_rows a0 b0 len ca cb A A' C C' Z Z' w hR hR' hZ hl)
  clear hR hR' hZ
  go_enter Try.func14, Try.ntmps14
  go_wp2_with fail
  refine P.out.mono ?_
  rintro e w' ⟨rfl, rfl⟩
  go_wp2
  go_ret
  exact ⟨rfl, rfl⟩
end Go.Proofs.Ytppcccocnmhbgaa
end

section
/- The law FilterBuilds, walked. -/
namespace Go.Proofs.Ytppcccocnmhbgaa
open Go Go.RowKit
set_option linter.unusedSimpArgs false
set_option linter.unusedVariables false
set_option maxRecDepth 100000

theorem unlikeN_congr {Z Z' : Nat → List Int} : ∀ {k : Nat}, (∀ i, i < k → Z i = Z' i) → unlikeN Z k = unlikeN Z' k
  | 0, _ => rfl
  | k + 1, h => by
    have e := unlikeN_congr (k := k) (fun i hi => h i (by omega))
    show (if Z k = [] ∨ Z k ∈ unlikeN Z k then unlikeN Z k else unlikeN Z k ++ [Z k]) = _
    rw [h k (by omega), e]; rfl
theorem rbuild2 (n : Nat) (a0 : Option Addr) (len cap : Nat) (A : Nat → Option Addr) (C : Nat → Nat) (Z : Nat → List Int) (w : World) (hR : RowsIn w a0 len A C Z) (hl : len ≤ 20000) :
    Calls Try.prog 12 #[hv n, .slice a0 len cap] w fun e w' => ∃ p c o, e = .returned (.tuple #[.slice p (buildS n (unlikeN Z len)).length c, .int .i64 0]) ∧ Below w.heap.size w w' ∧
      Row w' 5 (.slice p (buildS n (unlikeN Z len)).length c) (buildS n (unlikeN Z len)) o := by
  refine (rbuild n a0 len cap A C Z w hR (by omega)).mono ?_
  rintro e w' ⟨hb, h1, h2⟩
  obtain ⟨p, c, o, e1, hr, _⟩ := h2 hl
  exact ⟨p, c, o, e1, hb, hr⟩
theorem map_range_getD (Z : Nat → List Int) {L i : Nat} (hi : i < L) : ((List.range L).map Z).getD i [] = Z i := by simp [List.getD_eq_getElem?_getD, hi]
set_option maxHeartbeats 6400000 in
theorem builds_walk (n : Nat) (a0 : Option Addr) (len cap : Nat) (A : Nat → Option Addr) (C : Nat → Nat) (Z : Nat → List Int) (w : World)
    (hl : len ≤ 9223372036854775807) (hlc : len ≤ cap) (hcap : cap ≤ 9223372036854775807) (hR : RowsIn w a0 len A C Z) :
    Calls Try.prog 3 #[hv n, .slice a0 len cap] w fun e w' => e = .returned (.bool true) ∧ Below w.heap.size w w' := by
  have B0 := Blk.new w (hcs n) 23
  have K0 := (Below.refl w.heap.size w).alloc (Nat.le_refl _) (.cells (hcs n) 23)
  obtain ⟨L, hL⟩ : ∃ L, L = min len 60 := ⟨_, rfl⟩
  have hLl : L ≤ len := by omega
  have hmin : min (len : Int) 60 = (L : Int) := by omega
  have hLi : (L : Int) ≤ (cap : Int) := by omega
  have hLn : L ≤ cap := by omega
  have hL1 : L ≤ 60 := by omega
  have hRL := Lib.hid (hR.less hLl)
  have PT := Lib.hid (fun (wx : World) (hb : Below w.heap.size w wx) => ptexts a0 L cap A C Z wx (hRL.out.below hb) (by omega))
  have PR := Lib.hid (fun (wx : World) (hb : Below w.heap.size w wx) => rbuild2 n a0 L cap A C Z wx (hRL.out.below hb) (by omega))
  have PA := Lib.hid (fun (wx : World) => awake_true wx)
  have hbl := buildS_len (n := n) (U := unlikeN Z L) (Nat.le_trans (unlikeN_len Z L) (by omega))
  obtain ⟨bs, hbs⟩ : ∃ bs, bs = buildS n (unlikeN Z L) := ⟨_, rfl⟩
  rw [← hbs] at PR hbl
  have HBS := Lib.hid hbs
  have HB := Lib.hid (And.intro B0 K0)
  clear B0 K0 hR hL hLl hbs
  go_enter Try.func3, Try.ntmps3
  go_upto_region 2 with fail
  have bx := HB.out.1
  generalize w.alloc (.cells (hcs n) 23) = w0 at *
  generalize hgw : w.heap.size = hb at *
  go_wp2_with fail
  refine (PT.out _ HB.out.2).mono ?_
  rintro e w1 ⟨⟨v, rfl, hlist⟩, hb1⟩
  have b1 := bx.beyond hb1
  have K1 := Lib.hid (HB.out.2.trans (hb1.mono (by rw [← hgw]; exact HB.out.2.size)))
  have hg1 : hb ≤ w1.heap.size := by rw [← hgw]; exact K1.out.size
  obtain ⟨q1, c1, A1, C1, rfl, hle1, hc1, hrows⟩ := hlist.rows
  rw [show ((List.range L).map Z).length = L from by simp] at hle1 hrows ⊢
  have PB := pbuild1 n q1 L c1 A1 C1 _ w1 hrows (by omega)
  rw [unlikeN_congr (Z' := Z) (fun i hi => map_range_getD Z hi), ← HBS.out] at PB
  have PB := Lib.hid PB
  have HR1 := Lib.hid hrows
  have b1' := b1
  clear bx hb1 hlist hrows
  go_upto_region 3 with fail
  go_wp2_with (refine wpl_load rfl 23 (.tmp 2) rfl rfl b1 Try.underlying23 (by rw [hcs_size]; kernel_rfl) ?_)
  refine PB.out.mono ?_
  rintro e w2 ⟨p2, c2, o2, rfl, hb2, hrow2⟩
  have b2 := b1.beyond hb2
  have K2 := Lib.hid (K1.out.trans (hb2.mono hg1))
  have hg2 : hb ≤ w2.heap.size := by rw [← hgw]; exact K2.out.size
  have H2 := Lib.hid (And.intro hrow2 hb2)
  clear b1 b1' hb2 hrow2
  go_upto_region 4 with fail
  go_wp2_with (refine wpl_load rfl 23 (.tmp 2) rfl rfl b2 Try.underlying23 (by rw [hcs_size]; kernel_rfl) ?_)
  refine (PR.out _ K2.out).mono ?_
  rintro e w3 ⟨p3, c3, o3, rfl, hb3, hrow3⟩
  have K3 := Lib.hid (K2.out.trans (hb3.mono hg2))
  have hg3 : hb ≤ w3.heap.size := by rw [← hgw]; exact K3.out.size
  have hrow2 := H2.out.1.keep (Keep.of_below (X := fun _ => False) hb3) (fun _ _ h => h)
  obtain ⟨_, _, e2, hy2, _⟩ := hrow2.form
  cases e2
  obtain ⟨_, _, e3, hy3, _⟩ := hrow3.form
  cases e3
  have PE := Try.bytes_Equal_all p2 p3 bs.length c2 bs.length c3 bs bs w3 rfl rfl hy2 hy3
  rw [beq_self_eq_true] at PE
  have PE := Lib.hid PE
  have PS := Lib.hid (same_rows q1 a0 L c1 cap A1 A C1 C (fun i => ((List.range L).map Z).getD i []) Z w3 (HR1.out.below (H2.out.2.trans (hb3.mono H2.out.2.size))) (hRL.out.below (K3.out.mono (by rw [hgw]; exact Nat.le_refl _))) (fun i hi => map_range_getD Z hi) (by omega))
  clear b2 hb3 hrow2 hrow3 hy2 hy3
  generalize bs.length = bl at *
  go_wp2_with fail
  refine PE.out.mono ?_
  rintro e w4 ⟨rfl, hw4⟩
  obtain rfl : w3 = w4 := hw4.symm
  go_wp2_with fail
  refine PS.out.mono ?_
  rintro e w4 ⟨rfl, hw4⟩
  obtain rfl : w3 = w4 := hw4
  go_wp2_with fail
  refine (PA.out _).mono ?_
  rintro e w5 ⟨rfl, hb5⟩
  have K5 := Lib.hid (K3.out.trans (hb5.mono hg3))
  clear hb5
  go_wp2
  go_ret
  exact ⟨rfl, by rw [hgw]; exact K5.out⟩
end Go.Proofs.Ytppcccocnmhbgaa
end

section
/- The library's slices.Clone and slices.Reverse at [][]byte. -/
namespace Go.Proofs.Ytppcccocnmhbgaa
open Go Go.RowKit
set_option linter.unusedSimpArgs false
set_option linter.unusedVariables false
set_option maxRecDepth 100000

/-- rows that lie somewhere, as append wants them -/
theorem rows_src {w : World} {a0 : Option Addr} {len : Nat} {A : Nat → Option Addr} {C : Nat → Nat} {Z : Nat → List Int} (hR : RowsIn w a0 len A C Z) : 0 < len → ∃ pb po, a0 = some ⟨pb, po, none⟩ ∧ ∀ j u, (cellsL (rowsN A C Z len))[j]? = some u → w.cell? ⟨pb, po + j, none⟩ = some u := fun h0 => by
  obtain ⟨b, o', e1, h2, _⟩ := hR 0 h0
  refine ⟨b, o', e1, fun j u hu => ?_⟩
  have hj : j < len := by have := (List.getElem?_eq_some_iff.1 hu).1; rwa [cellsL_len, rowsN_len] at this
  obtain ⟨b', o'', e2, h3, _⟩ := hR j hj
  rw [e1] at e2
  cases e2
  rw [h3, ← hu]
  simp [cellsL, rowsN, hj, RwD.cell]
set_option maxHeartbeats 1600000 in
theorem clone_rows (a0 : Option Addr) (len cap : Nat) (A : Nat → Option Addr) (C : Nat → Nat) (Z : Nat → List Int) (w : World) (hR : RowsIn w a0 len A C Z) (hl : len ≤ 1000000) :
    Calls Try.prog 16 #[.slice a0 len cap] w fun e w' => ∃ v o, e = .returned v ∧ RowV w' 26 1 v len (cellsL (rowsN A C Z len)) o ∧ (∀ g, o = some g → w.heap.size ≤ g) ∧ Below w.heap.size w w' := by
  obtain ⟨i0, hi, hz0, hz1, hz2⟩ := info_parts rowinfo
  have qT : ∀ (w : World) (a : Option Addr) (n c n' c' : Nat), (binOp .eql 24 (.slice a n c) (.slice none n' c')).run Try.prog w = .ok (.bool a.isNone) w := fun w a n c n' c' => Lib.run_eql_slice_nil w _ _ a n c n' c' Try.underlying24
  rcases a0 with _ | ⟨b, f, _ | pth⟩
  · have h0 : len = 0 := by
      rcases Nat.eq_zero_or_pos len with h | h
      · exact h
      · obtain ⟨_, _, e, _⟩ := hR 0 h; cases e
    subst h0
    clear hR
    go_enter Try.func16, Try.ntmps16
    go_wp2
    go_ret
    exact ⟨_, none, rfl, RowV.nil _ _ _, fun g e => (by cases e), Below.refl _ _⟩
  · have ka := (Below.refl w.heap.size w).alloc (Nat.le_refl _) (.cells #[] 26)
    have rv0 : RowV (w.alloc (.cells #[] 26)) 26 1 (.slice (some ⟨w.heap.size, 0, none⟩) 0 0) 0 [] (some w.heap.size) := ⟨rfl, .inr ⟨w.heap.size, 0, #[], rfl, rfl, Blk.new w _ _, Nat.le_refl _, (by decide), (by decide), rfl⟩⟩
    obtain ⟨v5, w5, o5, run5, rv5, ho5, hk5⟩ := rowV_appendN (P := Try.prog) 24 24 i0 (.slice none 0 0) Try.underlying24 hi hz0 hz1 hz2 rfl rv0 (m := len) (c := cap) (by rw [cellsL_len, rowsN_len]) (cellsL_one _) (rows_src (hR.below ka)) (by unfold maxLen; omega) (by omega)
    have hst := own_step rfl ka (fun g hg => by cases hg; exact Nat.le_refl _) ho5 hk5
    rw [Nat.zero_add, List.nil_append] at rv5
    have H5 := Lib.hid (And.intro rv5 hst)
    clear rv0 rv5 ho5 hk5 hst hR ka
    go_enter Try.func16, Try.ntmps16
    go_wp2_with (at_builtin; refine wpl_append rfl _ _ 24 rfl rfl rfl run5 ?_)
    go_ret
    exact ⟨_, o5, rfl, H5.out⟩
  · have h0 : len = 0 := by
      rcases Nat.eq_zero_or_pos len with h | h
      · exact h
      · obtain ⟨_, _, e, _⟩ := hR 0 h; cases e
    subst h0
    have ka := (Below.refl w.heap.size w).alloc (Nat.le_refl _) (.cells #[] 26)
    have rv0 : RowV (w.alloc (.cells #[] 26)) 26 1 (.slice (some ⟨w.heap.size, 0, none⟩) 0 0) 0 [] (some w.heap.size) := ⟨rfl, .inr ⟨w.heap.size, 0, #[], rfl, rfl, Blk.new w _ _, Nat.le_refl _, (by decide), (by decide), rfl⟩⟩
    obtain ⟨v5, w5, o5, run5, rv5, ho5, hk5⟩ := rowV_appendN (P := Try.prog) 24 24 i0 (.slice none 0 0) Try.underlying24 hi hz0 hz1 hz2 rfl rv0 (p := some ⟨b, f, some pth⟩) (m := 0) (c := cap) (news := []) rfl (fun u hu => by cases hu) (fun h => absurd h (Nat.lt_irrefl 0)) (by decide) (by decide)
    have hst := own_step rfl ka (fun g hg => by cases hg; exact Nat.le_refl _) ho5 hk5
    have H5 := Lib.hid (And.intro rv5 hst)
    clear rv0 rv5 ho5 hk5 hst hR ka
    go_enter Try.func16, Try.ntmps16
    go_wp2_with (at_builtin; refine wpl_append rfl _ _ 24 rfl rfl rfl run5 ?_)
    go_ret
    exact ⟨_, o5, rfl, H5.out⟩
/-- so many from either end are changed -/
def revK (l : List RwD) (k : Nat) : List RwD := (List.range l.length).map fun p => if p < k ∨ l.length - k ≤ p then l.getD (l.length - 1 - p) rwNil else l.getD p rwNil
theorem revK_len (l : List RwD) (k : Nat) : (revK l k).length = l.length := by simp [revK]
theorem revK_get (l : List RwD) (k p : Nat) (h : p < l.length) : (revK l k)[p]? = some (if p < k ∨ l.length - k ≤ p then l.getD (l.length - 1 - p) rwNil else l.getD p rwNil) := by simp [revK, h]
theorem getD_get (l : List RwD) (p : Nat) (h : p < l.length) : l[p]? = some (l.getD p rwNil) := by rw [List.getD_eq_getElem?_getD, List.getElem?_eq_getElem h]; rfl
theorem revK_zero (l : List RwD) : revK l 0 = l := by
  apply List.ext_getElem?
  intro p
  by_cases h : p < l.length
  · rw [revK_get l 0 p h, if_neg (by omega), getD_get l p h]
  · rw [List.getElem?_eq_none (by rw [revK_len]; omega), List.getElem?_eq_none (by omega)]
theorem revK_end (l : List RwD) (k : Nat) (hk : l.length ≤ 2 * k + 1) : revK l k = l.reverse := by
  apply List.ext_getElem?
  intro p
  by_cases h : p < l.length
  · rw [revK_get l k p h, List.getElem?_reverse h]
    by_cases hc : p < k ∨ l.length - k ≤ p
    · rw [if_pos hc, getD_get l _ (by omega)]
    · rw [if_neg hc, show l.length - 1 - p = p from by omega, getD_get l p h]
  · rw [List.getElem?_eq_none (by rw [revK_len]; omega), List.getElem?_eq_none (by rw [List.length_reverse]; omega)]
theorem revK_step (l : List RwD) (k : Nat) (hk : 2 * k + 1 < l.length) : ((cellsL (revK l k)).set k (l.getD (l.length - 1 - k) rwNil).cell).set (l.length - 1 - k) (l.getD k rwNil).cell = cellsL (revK l (k + 1)) := by
  apply List.ext_getElem?
  intro p
  by_cases h : p < l.length
  · have e1 : (cellsL (revK l (k + 1)))[p]? = some (if p < k + 1 ∨ l.length - (k + 1) ≤ p then l.getD (l.length - 1 - p) rwNil else l.getD p rwNil).cell := by
      unfold cellsL; rw [List.getElem?_map, revK_get l _ p h]; rfl
    have e0 : (cellsL (revK l k))[p]? = some (if p < k ∨ l.length - k ≤ p then l.getD (l.length - 1 - p) rwNil else l.getD p rwNil).cell := by
      unfold cellsL; rw [List.getElem?_map, revK_get l _ p h]; rfl
    rw [e1, List.getElem?_set]
    by_cases c1 : l.length - 1 - k = p
    · rw [if_pos c1, if_pos (by rw [List.length_set, cellsL_len, revK_len]; omega), if_pos (by omega), show l.length - 1 - p = k from by omega]
    · rw [if_neg c1, List.getElem?_set]
      by_cases c2 : k = p
      · rw [if_pos c2, if_pos (by rw [cellsL_len, revK_len]; omega), if_pos (by omega), c2]
      · rw [if_neg c2, e0]
        by_cases c3 : p < k ∨ l.length - k ≤ p
        · rw [if_pos c3, if_pos (by omega)]
        · rw [if_neg c3, if_neg (by omega)]
  · rw [List.getElem?_eq_none (by rw [List.length_set, List.length_set, cellsL_len, revK_len]; omega), List.getElem?_eq_none (by rw [cellsL_len, revK_len]; omega)]
theorem revK_mid (l : List RwD) (k p : Nat) (h1 : k ≤ p) (h2 : p < l.length - k) : (cellsL (revK l k))[p]? = some (l.getD p rwNil).cell := by
  unfold cellsL; rw [List.getElem?_map, revK_get l _ p (by omega), if_neg (by omega)]; rfl
set_option maxHeartbeats 3200000 in
theorem reverse_rows (l : List RwD) (v : Value) (o : Option Nat) (w : World) (G : Nat) (h : RowV w 26 1 v l.length (cellsL l) o) (ho : ∀ g, o = some g → G ≤ g) (hl : l.length ≤ 1000000) :
    Calls Try.prog 17 #[v] w fun e w' => e = .returned (.tuple #[]) ∧ RowV w' 26 1 v l.length (cellsL l.reverse) o ∧ Below G w w' := by
  have H := Lib.hid h
  obtain ⟨q, c, rfl, _⟩ := h.form
  obtain ⟨n, hn⟩ : ∃ n, n = l.length := ⟨_, rfl⟩
  have HN := Lib.hid hn
  rw [← hn] at hl ⊢
  clear h hn
  go_enter Try.func17, Try.ntmps17
  go_wp2
  go_loopg [2, 3] n (fun gh i j wx => ∃ k : Nat, 2 * k ≤ n ∧ i = .int .i64 (k : Int) ∧ j = .int .i64 ((n : Int) - 1 - (k : Int)) ∧ gh = n - k ∧ Hid (RowV wx 26 1 (.slice q n c) n (cellsL (revK l k)) o ∧ Below G w wx))
  case atStart => exact ⟨0, Nat.zero_le _, rfl, by simp, rfl, by rw [revK_zero, HN.out]; exact H.out, Below.refl _ _⟩
  case round =>
    obtain ⟨k, hk, rfl, rfl, hg, HK⟩ := hrel
    have HG := Lib.hid hg
    clear hg
    by_cases hlt : 2 * k + 1 < n
    · obtain ⟨j, hj⟩ : ∃ j : Nat, j = n - 1 - k := ⟨_, rfl⟩
      have hji : ((n : Int) - 1 - (k : Int)) = (j : Int) := by omega
      rw [hji]
      have hjk : k < j := by omega
      have hjn : j < n := by omega
      have hkn : k < n := by omega
      obtain ⟨g, cap, ho', e, h1, h2, h3, hc, hf⟩ := HK.out.1.mem (by omega)
      cases e
      have ck := hc k (by omega)
      have cj := hc j (by omega)
      rw [revK_mid l k k (Nat.le_refl _) (by rw [← HN.out]; omega)] at ck
      rw [revK_mid l k j (by omega) (by rw [← HN.out]; omega)] at cj
      obtain ⟨x, hx⟩ : ∃ x, x = l.getD k rwNil := ⟨_, rfl⟩
      obtain ⟨y, hy⟩ : ∃ y, y = l.getD j rwNil := ⟨_, rfl⟩
      rw [← hx] at ck
      rw [← hy] at cj
      have fk := hf k
      have fj := hf j
      have HX := Lib.hid (And.intro hx (And.intro hy (And.intro hj ho')))
      clear hc hf hx hy hj hji ho'
      obtain ⟨xa, xc, xz⟩ := x
      obtain ⟨ya, yc, yz⟩ := y
      change wr.cell? ⟨g, k, none⟩ = some (.slice xa xz.length xc) at ck
      change wr.cell? ⟨g, j, none⟩ = some (.slice ya yz.length yc) at cj
      go_wp2
      go_region
      all_goals go_wp2
      go_roundg (n - (k + 1))
      case measure => rw [HG.out]; omega
      case rel =>
        refine ⟨k + 1, by omega, rfl, ?_, rfl, ?_, ?_⟩
        · have := HX.out.2.2.1
          congr 1; omega
        · have e0 := HX.out.2.2.2
          have r1 := HK.out.1
          rw [e0] at r1 ⊢
          have r2 := ((r1.set k (.slice ya yz.length yc) (by omega)).set j (.slice xa xz.length xc) (by omega)).keep (Keep.drew (X := fun _ => False) (Keep.refl _ _)) (fun _ _ h => h)
          have hcs : ((cellsL (revK l k)).set k (.slice ya yz.length yc)).set j (.slice xa xz.length xc) = cellsL (revK l (k + 1)) := by
            have h := revK_step l k (by rw [← HN.out]; omega)
            rw [← HN.out, ← HX.out.2.2.1, ← HX.out.1, ← HX.out.2.1] at h
            exact h
          rw [hcs] at r2
          exact r2
        · have hg := ho _ HX.out.2.2.2
          exact ((HK.out.2.setCell hg _).setCell hg _).drew
    · have d1 : decide ((k : Int) < (n : Int) - 1 - (k : Int)) = false := decide_eq_false (by omega)
      have hR := HK.out.1
      rw [revK_end l k (by rw [← HN.out]; omega)] at hR
      have HR := Lib.hid hR
      clear hR
      go_wp2
      go_end0
      exact ⟨rfl, HR.out, HK.out.2⟩
end Go.Proofs.Ytppcccocnmhbgaa
end

section
/- The law FilterOrders, walked. -/
namespace Go.Proofs.Ytppcccocnmhbgaa
open Go Go.RowKit
set_option linter.unusedSimpArgs false
set_option linter.unusedVariables false
set_option maxRecDepth 100000

theorem unlikeN_nodup (Z : Nat → List Int) : ∀ k, (unlikeN Z k).Nodup
  | 0 => List.nodup_nil
  | k + 1 => by
    by_cases h : Z k = [] ∨ Z k ∈ unlikeN Z k
    · rw [unlikeN_skip h]; exact unlikeN_nodup Z k
    · rw [unlikeN_more h]
      rw [List.nodup_append]
      refine ⟨unlikeN_nodup Z k, by simp, fun a ha b hb => ?_⟩
      have : b = Z k := by simpa using hb
      rw [this]
      intro e
      exact h (.inr (e ▸ ha))
theorem unlikeN_iff {Z : Nat → List Int} {k : Nat} {x : List Int} : x ∈ unlikeN Z k ↔ x ≠ [] ∧ ∃ i, i < k ∧ x = Z i := by
  constructor
  · intro h
    refine ⟨fun e => ?_, unlikeN_mem h⟩
    have := unlikeN_ne h
    rw [e] at this; simp at this
  · rintro ⟨h0, i, hi, rfl⟩
    exact mem_unlikeN hi h0
theorem sortN_of_perm {l m : List Nat} (h : l.Perm m) : sortN l = sortN m := by
  have h1 := (sortN_perm l).trans (h.trans (sortN_perm m).symm)
  have key : ∀ {a b : List Nat}, a.Pairwise (· ≤ ·) → b.Pairwise (· ≤ ·) → a.Perm b → a = b := by
    intro a
    induction a with
    | nil => intro b _ _ hp; exact (List.nil_perm.1 hp).symm
    | cons x t ih =>
      intro b ha hb hp
      cases b with
      | nil => exact absurd hp.length_eq (by simp)
      | cons y u =>
        rw [List.pairwise_cons] at ha hb
        have e : x = y := by
          have hx : x ∈ y :: u := hp.subset (by simp)
          have hy : y ∈ x :: t := hp.symm.subset (by simp)
          have a1 : y ≤ x := by
            rcases List.mem_cons.1 hx with e | e
            · omega
            · exact hb.1 x e
          have a2 : x ≤ y := by
            rcases List.mem_cons.1 hy with e | e
            · omega
            · exact ha.1 y e
          omega
        subst e
        rw [ih ha.2 hb.2 (List.Perm.cons_inv hp)]
  exact key (sortN_sorted l) (sortN_sorted m) h1
theorem buildS_perm {n : Nat} {U V : List (List Int)} (h : U.Perm V) : buildS n U = buildS n V := by
  unfold buildS
  rw [h.length_eq, sortN_of_perm (h.map _)]
theorem order_same (l : List RwD) {L : Nat} {Z : Nat → List Int} (hl : l.length = L) (hz : ∀ i, i < L → (l.getD i rwNil).z = Z i) : (unlikeN Z L).Perm (unlikeN (fun i => ((l.reverse ++ l ++ [rwNil]).getD i rwNil).z) (l.reverse ++ l ++ [rwNil]).length) := by
  rw [List.perm_ext_iff_of_nodup (unlikeN_nodup _ _) (unlikeN_nodup _ _)]
  intro x
  rw [unlikeN_iff, unlikeN_iff]
  have hmem : ∀ (m : List RwD) (x : List Int), (∃ i, i < m.length ∧ x = (m.getD i rwNil).z) ↔ ∃ r ∈ m, x = r.z := fun m x => by
    constructor
    · rintro ⟨i, hi, rfl⟩
      exact ⟨m[i], List.getElem_mem hi, by rw [List.getD_eq_getElem?_getD, List.getElem?_eq_getElem hi]; rfl⟩
    · rintro ⟨r, hr, rfl⟩
      obtain ⟨i, hi, rfl⟩ := List.mem_iff_getElem.1 hr
      exact ⟨i, hi, by rw [List.getD_eq_getElem?_getD, List.getElem?_eq_getElem hi]; rfl⟩
  have h1 : (∃ i, i < L ∧ x = Z i) ↔ ∃ r ∈ l, x = r.z := by
    rw [← hmem l x, hl]
    constructor
    · rintro ⟨i, hi, e⟩; exact ⟨i, hi, by rw [hz i hi]; exact e⟩
    · rintro ⟨i, hi, e⟩; exact ⟨i, hi, by rw [← hz i hi]; exact e⟩
  rw [h1, hmem]
  constructor
  · rintro ⟨h0, r, hr, e⟩
    exact ⟨h0, r, by simp [hr], e⟩
  · rintro ⟨h0, r, hr, e⟩
    refine ⟨h0, r, ?_, e⟩
    simp only [List.mem_append, List.mem_reverse, List.mem_singleton] at hr
    rcases hr with (h | h) | h
    · exact h
    · exact h
    · exact absurd (by rw [e, h]; rfl) h0
theorem rowsN_getD {A : Nat → Option Addr} {C : Nat → Nat} {Z : Nat → List Int} {L i : Nat} (hi : i < L) : (rowsN A C Z L).getD i rwNil = ⟨A i, C i, Z i⟩ := by simp [rowsN, List.getD_eq_getElem?_getD, hi]
theorem rwNil_ok (w : World) : RowOf w rwNil.cell rwNil.a rwNil.c rwNil.z := ⟨rfl, Lib.BytesIn.nil _ _ _, (by decide), Nat.le_refl _, (by decide), (fun _ => rfl), (fun y hy => by cases hy), (fun q hq => by cases hq)⟩
/-- three slices of rows, put one behind the other -/
theorem cat_three {w : World} {l : List RwD} {v : Value} {o : Option Nat} {q : Option Addr} {c : Nat} (hv : v = .slice q l.length c) (h : RowV w 26 1 v l.length (cellsL l.reverse) o) {a0 : Option Addr} {cap : Nat} (hs : 0 < l.length → ∃ pb po, a0 = some ⟨pb, po, none⟩ ∧ ∀ j u, (cellsL l)[j]? = some u → w.cell? ⟨pb, po + j, none⟩ = some u) :
    ∃ (A : Nat → Option Addr) (L C : Nat → Nat) (cs : Nat → List Value),
      CatIn ((w.alloc (.cells #[.slice none 0 0] 26)).alloc (.cells #[.slice q l.length c, .slice a0 l.length cap, .slice (some ⟨w.heap.size, 0, none⟩) 1 1] 24)) (some ⟨w.heap.size + 1, 0, none⟩) 3 A L C cs ∧
      lenL L 3 = (l.reverse ++ l ++ [rwNil]).length ∧ catL cs 3 = cellsL (l.reverse ++ l ++ [rwNil]) := by
  subst hv
  have ka := (Below.refl w.heap.size w).alloc (Nat.le_refl _) (.cells #[.slice none 0 0] 26)
  have bn := Blk.new w #[.slice none 0 0] 26
  have hs1 : (w.alloc (.cells #[.slice none 0 0] 26)).heap.size = w.heap.size + 1 := by simp
  have kb := (Below.refl (w.alloc (.cells #[.slice none 0 0] 26)).heap.size (w.alloc (.cells #[.slice none 0 0] 26))).alloc (Nat.le_refl _) (.cells #[.slice q l.length c, .slice a0 l.length cap, .slice (some ⟨w.heap.size, 0, none⟩) 1 1] 24)
  have b3 := Blk.new (w.alloc (.cells #[.slice none 0 0] 26)) #[.slice q l.length c, .slice a0 l.length cap, .slice (some ⟨w.heap.size, 0, none⟩) 1 1] 24
  rw [hs1] at b3
  have bn2 := bn.beyond kb
  have kab := ka.alloc ka.size (.cells #[.slice q l.length c, .slice a0 l.length cap, .slice (some ⟨w.heap.size, 0, none⟩) 1 1] 24)
  generalize ((w.alloc (.cells #[.slice none 0 0] 26)).alloc (.cells #[.slice q l.length c, .slice a0 l.length cap, .slice (some ⟨w.heap.size, 0, none⟩) 1 1] 24)) = W at *
  refine ⟨fun i => if i = 0 then q else if i = 1 then a0 else some ⟨w.heap.size, 0, none⟩, fun i => if i = 2 then 1 else l.length, fun i => if i = 0 then c else if i = 1 then cap else 1, fun i => if i = 0 then cellsL l.reverse else if i = 1 then cellsL l else [.slice none 0 0], fun i hi => ?_, ?_, ?_⟩
  · match i, hi with
    | 0, _ =>
      refine ⟨w.heap.size + 1, 0, rfl, b3.cell 0, by simp [cellsL_len], cellsL_one _, fun h0 => ?_⟩
      have h0' : 0 < l.length := h0
      obtain ⟨g, cap', _, e, _, _, hg, hc, _⟩ := h.mem h0'
      cases e
      refine ⟨g, 0, rfl, fun j u hu => ?_⟩
      have hu' : (cellsL l.reverse)[j]? = some u := hu
      have hj : j < l.length * 1 := by have := (List.getElem?_eq_some_iff.1 hu').1; rw [cellsL_len, List.length_reverse] at this; omega
      rw [Nat.zero_add]
      exact (kab.cell (p := ⟨g, j, none⟩) hg).trans ((hc j hj).trans hu')
    | 1, _ =>
      refine ⟨w.heap.size + 1, 0, rfl, b3.cell 1, by simp [cellsL_len], cellsL_one _, fun h0 => ?_⟩
      obtain ⟨pb, po, e, hh⟩ := hs h0
      refine ⟨pb, po, e, fun j u hu => ?_⟩
      have := hh j u hu
      exact (kab.cell (p := ⟨pb, po + j, none⟩) (cell_lt this)).trans this
    | 2, _ =>
      refine ⟨w.heap.size + 1, 0, rfl, b3.cell 2, rfl, fun u hu => ?_, fun h0 => ⟨w.heap.size, 0, rfl, fun j u hu => ?_⟩⟩
      · have hu' : u ∈ [Value.slice none 0 0] := hu
        rw [List.mem_singleton.1 hu']; rfl
      · have hu' : [Value.slice none 0 0][j]? = some u := hu
        match j, hu' with
        | 0, hu' => rw [Nat.zero_add, bn2.cell]; exact hu'
  · show ((0 + l.length) + l.length) + 1 = _
    simp
    omega
  · show (([] ++ cellsL l.reverse) ++ cellsL l) ++ [rwNil.cell] = _
    simp [cellsL]
theorem hashInfoF : (Try.prog.info? 23).map (·.size) = some 32 := by kernel_rfl
theorem yld_hashF {ops : Array Oper} {S : World → Prop} {op : Oper} {a : Act} (hw : Region.wanted op (yielded ops a.tmps) = true) (x : Operand) (ho : op.op = .load 23 x) (b k : Nat) (hx : a.eval x = .pointer (some ⟨b, k, none⟩)) (n : Nat) (hS : ∀ w, S w → w.rangeAt b k (hls n)) :
    YieldsIf Try.prog ops S op (hv n) a :=
  yieldsIf_load_mid hw 23 x ho b k hx (hls n) (.array 32 5) hS Try.underlying23 rfl hashInfoF
set_option maxHeartbeats 6400000 in
theorem orders_walk (n : Nat) (a0 : Option Addr) (len cap : Nat) (A : Nat → Option Addr) (C : Nat → Nat) (Z : Nat → List Int) (w : World)
    (hl : len ≤ 9223372036854775807) (hlc : len ≤ cap) (hcap : cap ≤ 9223372036854775807) (hR : RowsIn w a0 len A C Z) :
    Calls Try.prog 4 #[hv n, .slice a0 len cap] w fun e w' => e = .returned (.bool true) ∧ Below w.heap.size w w' := by
  have B0 := Blk.new w (hcs n) 23
  have K0 := (Below.refl w.heap.size w).alloc (Nat.le_refl _) (.cells (hcs n) 23)
  obtain ⟨L, hL⟩ : ∃ L, L = min len 60 := ⟨_, rfl⟩
  have hLl : L ≤ len := by omega
  have hmin : min (len : Int) 60 = (L : Int) := by omega
  have hLi : (L : Int) ≤ (cap : Int) := by omega
  have hLn : L ≤ cap := by omega
  have hL1 : L ≤ 60 := by omega
  have hRL := Lib.hid (hR.less hLl)
  have PB := Lib.hid (fun (wx : World) (hb : Below w.heap.size w wx) => pbuild1 n a0 L cap A C Z wx (hRL.out.below hb) (by omega))
  have PC := Lib.hid (fun (wx : World) (hb : Below w.heap.size w wx) => clone_rows a0 L cap A C Z wx (hRL.out.below hb) (by omega))
  have PA := Lib.hid (fun (wx : World) => awake_true wx)
  have hbl := buildS_len (n := n) (U := unlikeN Z L) (Nat.le_trans (unlikeN_len Z L) (by omega))
  obtain ⟨l, hll⟩ : ∃ l, l = rowsN A C Z L := ⟨_, rfl⟩
  have hlen : l.length = L := by rw [hll, rowsN_len]
  have hok := Lib.hid (fun (wx : World) (hb : Below w.heap.size w wx) => (rowsN_ok (hRL.out.below hb)))
  rw [← hll] at hok PC
  have hsrc := Lib.hid (fun (wx : World) (hb : Below w.heap.size w wx) => (rows_src (hRL.out.below hb)))
  rw [← hll] at hsrc
  have hperm := buildS_perm (n := n) (order_same l hlen (fun i hi => by rw [hll, rowsN_getD hi]))
  obtain ⟨bs, hbs⟩ : ∃ bs, bs = buildS n (unlikeN Z L) := ⟨_, rfl⟩
  rw [← hbs] at PB hbl hperm
  have HP := Lib.hid (And.intro hperm hlen)
  have HB := Lib.hid (And.intro B0 K0)
  clear B0 K0 hR hL hLl hbs hperm hll
  go_enter Try.func4, Try.ntmps4
  go_upto_region 2 with fail
  have bx := HB.out.1
  generalize w.alloc (.cells (hcs n) 23) = w0 at *
  generalize hgw : w.heap.size = hb at *
  go_wp2_with (refine wpl_load rfl 23 (.tmp 2) rfl rfl bx Try.underlying23 (by rw [hcs_size]; kernel_rfl) ?_)
  refine (PB.out _ HB.out.2).mono ?_
  rintro e w1 ⟨p1, c1, o1, rfl, hb1, hrow1⟩
  have K1 := Lib.hid (HB.out.2.trans (hb1.mono (by rw [← hgw]; exact HB.out.2.size)))
  have hg1 : hb ≤ w1.heap.size := by rw [← hgw]; exact K1.out.size
  have H1 := Lib.hid (And.intro hrow1 (bx.beyond hb1))
  clear bx hb1 hrow1
  go_upto_region 3 with fail
  go_wp2_with fail
  refine (PC.out _ K1.out).mono ?_
  rintro e w2 ⟨v2, o2, rfl, rv2, ho2, hb2⟩
  obtain ⟨q2, c2, rfl, _⟩ := rv2.form
  have PV := reverse_rows l (.slice q2 L c2) o2 w2 w1.heap.size (by rw [HP.out.2]; exact rv2) ho2 (by rw [HP.out.2]; omega)
  rw [HP.out.2] at PV
  have PV := Lib.hid PV
  have HB2 := Lib.hid hb2
  clear rv2 ho2 hb2
  go_upto_region 4 with fail
  go_wp2_with fail
  refine PV.out.mono ?_
  rintro e w3 ⟨rfl, rv3, hb3⟩
  have hb13 := HB2.out.trans hb3
  have K3 := Lib.hid (K1.out.trans (hb13.mono hg1))
  have hg3 : hb ≤ w3.heap.size := by rw [← hgw]; exact K3.out.size
  have b3 := H1.out.2.beyond hb13
  have hs3 : 0 < l.length → ∃ pb po, a0 = some ⟨pb, po, none⟩ ∧ ∀ j u, (cellsL l)[j]? = some u → w3.drew.cell? ⟨pb, po + j, none⟩ = some u := by rw [HP.out.2]; exact hsrc.out w3 K3.out
  have rv3' : RowV w3.drew 26 1 (.slice q2 l.length c2) l.length (cellsL l.reverse) o2 := by rw [HP.out.2]; exact rv3.keep (Keep.drew (X := fun _ => False) (Keep.refl _ _)) (fun _ _ h => h)
  obtain ⟨CA, CL, CC, CS, hcat, hcl, hcc⟩ := cat_three (w := w3.drew) (l := l) (v := .slice q2 l.length c2) rfl rv3' (a0 := a0) (cap := cap) hs3
  rw [HP.out.2] at hcat
  have hk5 := ((Below.refl w3.heap.size w3.drew).alloc (Nat.le_refl _) (.cells #[.slice none 0 0] 26)).alloc (by simp) (.cells #[.slice q2 L c2, .slice a0 L cap, .slice (some ⟨w3.drew.heap.size, 0, none⟩) 1 1] 24)
  have hkd : Below w3.heap.size w3 w3.drew := (Below.refl _ _).drew
  obtain ⟨ll, hll⟩ : ∃ ll, ll = l.reverse ++ l ++ [rwNil] := ⟨_, rfl⟩
  have hll2 : ll.length = L + L + 1 := by rw [hll, List.length_append, List.length_append, List.length_reverse, HP.out.2]; rfl
  rw [← hll] at hcl hcc
  obtain ⟨m, hm⟩ : ∃ m, m = ll.length := ⟨_, rfl⟩
  have hm5 : m ≤ 20000 := by omega
  have hokl : ∀ wx, Below w3.heap.size w3 wx → AllOk wx ll := fun wx hb => by
    have h1 := hok.out wx (K3.out.trans (hb.mono hg3))
    rw [hll]
    intro r hr
    simp only [List.mem_append, List.mem_reverse, List.mem_singleton] at hr
    rcases hr with (h | h) | h
    · exact h1 r h
    · exact h1 r h
    · rw [h]; exact rwNil_ok wx
  have PCC : Calls Try.prog 18 #[.slice (some ⟨w3.heap.size + 1, 0, none⟩) 3 3] ((w3.drew.alloc (.cells #[.slice none 0 0] 26)).alloc (.cells #[.slice q2 L c2, .slice a0 L cap, .slice (some ⟨w3.heap.size, 0, none⟩) 1 1] 24)) fun e w' => ∃ q5 c5 A5 C5, e = .returned (.slice q5 m c5) ∧ RowsIn w' q5 m A5 C5 (fun i => (ll.getD i rwNil).z) ∧ Below ((w3.drew.alloc (.cells #[.slice none 0 0] 26)).alloc (.cells #[.slice q2 L c2, .slice a0 L cap, .slice (some ⟨w3.heap.size, 0, none⟩) 1 1] 24)).heap.size ((w3.drew.alloc (.cells #[.slice none 0 0] 26)).alloc (.cells #[.slice q2 L c2, .slice a0 L cap, .slice (some ⟨w3.heap.size, 0, none⟩) 1 1] 24)) w' := by
    refine (concat_R _ 3 3 CA CL CC CS _ hcat (by decide) (by rw [hcl, hll2]; omega)).mono ?_
    rintro e w' ⟨v, o, rfl, rv, _, hb⟩
    rw [hcl, hcc] at rv
    have hb0 : Below w3.heap.size w3 w' := hkd.trans (hk5.trans (hb.mono hk5.size))
    obtain ⟨q5, c5, rfl, _, _, hrows⟩ := rows_of rv (hokl w' hb0)
    rw [← hm] at hrows ⊢
    exact ⟨q5, c5, _, _, rfl, hrows, hb⟩
  have hp1 := HP.out.1
  rw [← hll, ← hm] at hp1
  have PB5 : ∀ (q5 : Option Addr) (c5 : Nat) A5 C5 (wx : World), RowsIn wx q5 m A5 C5 (fun i => (ll.getD i rwNil).z) → Calls Try.prog 11 #[hv n, .slice q5 m c5] wx fun e w' => ∃ p c o, e = .returned (.tuple #[.slice p bs.length c, .int .i64 0]) ∧ Below wx.heap.size wx w' ∧ Row w' 5 (.slice p bs.length c) bs o := fun q5 c5 A5 C5 wx h => by
    have := pbuild1 n q5 m c5 A5 C5 _ wx h hm5
    rw [← hp1] at this
    exact this
  have PCC := Lib.hid PCC
  have PB5 := Lib.hid PB5
  have LB : ∀ w', Below w3.heap.size w3 w' → w'.rangeAt hb 0 (hls n) := fun w' hS => by
    intro j v hv
    rw [Nat.zero_add, (b3.beyond hS).cell]; simpa [hcs] using hv
  have HLB := Lib.hid LB
  have HB13 := Lib.hid hb13
  clear hb3 hb13 rv3 rv3' hs3 hcat hcl hcc hll2 LB hk5 hkd b3 hm hll hp1 hokl hm5
  go_upto_region 5 with fail
  refine wp_region_held_drew (S := fun w' => Below w3.heap.size w3 w') (by kernel_rfl) ((Below.refl _ _).drew) (fun hS => ?_)
  refine wpAnyH_take (i := 0) (oi := ⟨_, _, _, _, _, _⟩) (v := hv n) rfl (by kernel_rfl) (by kernel_rfl) (by kernel_rfl) (fun _ _ _ h => h) (yld_hashF (by rfl) (.tmp 2) rfl hb 0 rfl n (fun w0 hs => HLB.out w0 hs)) hS ?_
  try simp only [Act.put, List.setIfInBounds_toArray, List.set_cons_zero, List.set_cons_succ]
  refine wpAnyH_take (i := 1) (oi := ⟨_, _, _, _, _, _⟩) (v := ?_) rfl (by kernel_rfl) (by kernel_rfl) (by kernel_rfl) (fun _ _ _ h => h) (Or.inl ⟨by rfl, ?_⟩) hS ?_
  rotate_left
  · intro w0 hs; clear hs; go_simp; try (with_reducible rfl)
  try simp only [Act.put, List.setIfInBounds_toArray, List.set_cons_zero, List.set_cons_succ]
  refine wpAnyH_take (i := 2) (oi := ⟨_, _, _, _, _, _⟩) (v := ?_) rfl (by kernel_rfl) (by kernel_rfl) (by kernel_rfl) (fun _ _ _ h => h) (Or.inl ⟨by rfl, ?_⟩) hS ?_
  rotate_left
  · intro w0 hs; clear hs; go_simp; try (with_reducible rfl)
  try simp only [Act.put, List.setIfInBounds_toArray, List.set_cons_zero, List.set_cons_succ]
  refine wpAnyH_ready (rs := [3]) (by kernel_rfl) (by simp) ?_
  refine AllReadyH.cons (o := ⟨_, _, _, _, _, _⟩) rfl (fun K hK => ?_) AllReadyH.nil
  rw [if_pos (by rfl)]
  go_simp
  refine hK.out _ _ (hS.alloc hS.size _) (fun hS' => ?_)
  clear hS hK
  have hS := hS'; clear hS'
  try simp only [Act.put, List.setIfInBounds_toArray, List.set_cons_zero, List.set_cons_succ]
  refine wpAnyH_ready (rs := [4]) (by kernel_rfl) (by simp) ?_
  refine AllReadyH.cons (o := ⟨_, _, _, _, _, _⟩) rfl (fun K hK => ?_) AllReadyH.nil
  rw [if_pos (by rfl)]
  go_simp
  refine hK.out _ _ (hS.alloc hS.size _) (fun hS' => ?_)
  clear hS hK
  have hS := hS'; clear hS'
  try simp only [Act.put, List.setIfInBounds_toArray, List.set_cons_zero, List.set_cons_succ]
  refine wpAnyH_ready (rs := [5]) (by kernel_rfl) (by simp) ?_
  refine AllReadyH.cons (o := ⟨_, _, _, _, _, _⟩) rfl (fun K hK => ?_) AllReadyH.nil
  rw [if_pos (by rfl)]
  go_step
  refine PCC.out.mono ?_
  rintro e v3 ⟨q5, c5, A5, C5, rfl, hrows5, hv3⟩
  simp only []
  refine hK.out _ _ (hS.trans (hv3.mono hS.size)) (fun hS' => ?_)
  clear hS hK
  have hS := hS'; clear hS'
  try simp only [Act.put, List.setIfInBounds_toArray, List.set_cons_zero, List.set_cons_succ]
  refine wpAnyH_ready (rs := [6]) (by kernel_rfl) (by simp) ?_
  refine AllReadyH.cons (o := ⟨_, _, _, _, _, _⟩) rfl (fun K hK => ?_) AllReadyH.nil
  rw [if_pos (by rfl)]
  go_step
  refine (PB5.out _ _ _ _ _ hrows5).mono ?_
  rintro e v4 ⟨p6, c6, o6, rfl, hv4, hrow6⟩
  have H6 := Lib.hid hrow6
  clear hrow6 hrows5
  simp only []
  refine hK.out _ _ (hS.trans (hv4.mono hS.size)) (fun hS' => ?_)
  clear hS hK
  have hS := hS'; clear hS'
  try simp only [Act.put, List.setIfInBounds_toArray, List.set_cons_zero, List.set_cons_succ]
  refine wpAnyH_take (i := 7) (oi := ⟨_, _, _, _, _, _⟩) (v := ?_) rfl (by kernel_rfl) (by kernel_rfl) (by kernel_rfl) (fun _ _ _ h => h) (Or.inl ⟨by rfl, ?_⟩) hS ?_
  rotate_left
  · intro w0 hs; clear hs; go_simp; try (with_reducible rfl)
  try simp only [Act.put, List.setIfInBounds_toArray, List.set_cons_zero, List.set_cons_succ]
  refine wpAnyH_take (i := 8) (oi := ⟨_, _, _, _, _, _⟩) (v := ?_) rfl (by kernel_rfl) (by kernel_rfl) (by kernel_rfl) (fun _ _ _ h => h) (Or.inl ⟨by rfl, ?_⟩) hS ?_
  rotate_left
  · intro w0 hs; clear hs; go_simp; try (with_reducible rfl)
  try simp only [Act.put, List.setIfInBounds_toArray, List.set_cons_zero, List.set_cons_succ]
  refine wpAnyH_take (i := 9) (oi := ⟨_, _, _, _, _, _⟩) (v := ?_) rfl (by kernel_rfl) (by kernel_rfl) (by kernel_rfl) (fun _ _ _ h => h) (Or.inl ⟨by rfl, ?_⟩) hS ?_
  rotate_left
  · intro w0 hs; clear hs; go_simp; try (with_reducible rfl)
  try simp only [Act.put, List.setIfInBounds_toArray, List.set_cons_zero, List.set_cons_succ]
  refine wpAnyH_take (i := 10) (oi := ⟨_, _, _, _, _, _⟩) (v := ?_) rfl (by kernel_rfl) (by kernel_rfl) (by kernel_rfl) (fun _ _ _ h => h) (Or.inl ⟨by rfl, ?_⟩) hS ?_
  rotate_left
  · intro w0 hs; clear hs; go_simp; try (with_reducible rfl)
  try simp only [Act.put, List.setIfInBounds_toArray, List.set_cons_zero, List.set_cons_succ]
  refine wpAnyH_take (i := 11) (oi := ⟨_, _, _, _, _, _⟩) (v := ?_) rfl (by kernel_rfl) (by kernel_rfl) (by kernel_rfl) (fun _ _ _ h => h) (Or.inl ⟨by rfl, ?_⟩) hS ?_
  rotate_left
  · intro w0 hs; clear hs; go_simp; try (with_reducible rfl)
  try simp only [Act.put, List.setIfInBounds_toArray, List.set_cons_zero, List.set_cons_succ]
  refine wpAnyH_done (by kernel_rfl) ?_ _
  have K4 := Lib.hid (K3.out.trans (hS.mono hg3))
  have hg4 : hb ≤ v4.heap.size := by rw [← hgw]; exact K4.out.size
  have hrow1 := H1.out.1.keep (Keep.of_below (X := fun _ => False) (HB13.out.trans (hS.mono HB13.out.size))) (fun _ _ h => h)
  obtain ⟨_, _, e1, hy1, _⟩ := hrow1.form
  cases e1
  obtain ⟨_, _, e6, hy6, _⟩ := H6.out.form
  cases e6
  have PE := Try.bytes_Equal_all p1 p6 bs.length c1 bs.length c6 bs bs v4 rfl rfl hy1 hy6
  rw [beq_self_eq_true] at PE
  have PE := Lib.hid PE
  clear hS hv3 hv4 hy1 hy6 hrow1
  generalize bs.length = bl at *
  go_wp2_with fail
  refine PE.out.mono ?_
  rintro e w7 ⟨rfl, hw7⟩
  obtain rfl : v4 = w7 := hw7.symm
  go_wp2_with fail
  refine (PA.out _).mono ?_
  rintro e w8 ⟨rfl, hb8⟩
  have K8 := Lib.hid (K4.out.trans (hb8.mono hg4))
  clear hb8
  go_wp2
  go_ret
  exact ⟨rfl, by rw [hgw]; exact K8.out⟩
end Go.Proofs.Ytppcccocnmhbgaa
end
