/- Texts and SameTexts of what the statements share. -/
import Derived.Test.YtppcccocnmhbgaaOnce
import Derived.Test.YtppcccocnmhbgaaClone
import Derived.Test.YtppcccocnmhbgaaShelf
namespace Go.Proofs.Ytppcccocnmhbgaa
open Go Go.RowKit
set_option linter.unusedSimpArgs false
set_option linter.unusedVariables false
set_option maxRecDepth 100000

/-- a row of its own put behind -/
theorem ListOf.add {w0 w : World} {G : Nat} {v : Value} {Zs : List (List Int)} (h : ListOf w0 G v Zs) (hb : Below w0.heap.size w0 w) (hG : G ≤ w0.heap.size) (hl : Zs.length ≤ 5000000000000) {A : Option Addr} {C : Nat} {Z : List Int} (hR : RowOf w (.slice A Z.length C) A C Z) (hq : ∀ q, A = some q → w0.heap.size ≤ q.block ∧ FreeAt w q.block) :
    ∃ q n c w', v = .slice q Zs.length n ∧ (Builtin.append_ #[24, 24] 24 #[v, .slice (some ⟨w.heap.size, 0, none⟩) 1 1]).run Try.prog (w.alloc (.cells #[.slice A Z.length C] 26)) = .ok c w' ∧ ListOf w' G c (Zs ++ [Z]) ∧ Below G w w' := by
  obtain ⟨i0, hi, hz0, hz1, hz2⟩ := info_parts rowinfo
  obtain ⟨cs, o, h1, h2, h3⟩ := h
  have kb := Keep.of_below (X := fun _ => False) hb
  have rv := h1.keep kb (fun _ _ h => h)
  have ra := h3.keep kb (fun g hg => hg.elim)
  have ho : ∀ g, o = some g → g < w0.heap.size := fun g hg => h1.lt g hg
  obtain ⟨g5, c5, w5, run5, rv5, ho5, hk5⟩ := rowV_append1 (P := Try.prog) 24 24 i0 (.slice none 0 0) Try.underlying24 hi hz0 hz1 hz2 rfl rv (.slice A Z.length C) rfl (by unfold maxLen; omega) (by omega)
  obtain ⟨q, n, rfl, _⟩ := h1.form
  have hmv : some g5 = o ∨ ∃ g, some g5 = some g ∧ w.heap.size ≤ g := by
    rcases ho5 with h | h
    · exact .inl h.symm
    · exact .inr ⟨g5, rfl, h⟩
  have ra6 := (ra.snoc hR (fun q hq' => ⟨Nat.le_trans hG (hq q hq').1, fun e => by have := ho _ e; have := (hq q hq').1; omega, (hq q hq').2⟩)).grow hk5 hmv
  have e5 : (Zs ++ [Z]).length = Zs.length + 1 := by simp
  refine ⟨q, n, _, w5, rfl, run5, ⟨_, some g5, by rw [e5]; exact rv5, fun g hg => ?_, ra6⟩, hk5.below (Nat.le_trans hG hb.size) (fun g hg => h2 _ hg)⟩
  cases hg
  rcases ho5 with h | h
  · exact h2 _ h
  · have := hb.size; omega
theorem ListOf.nil (w : World) (G : Nat) : ListOf w G (.slice none 0 0) [] := ⟨[], none, RowV.nil _ _ _, fun g hg => (by cases hg), RowsAt.nil _ _ _⟩
theorem ListOf.more {w w' : World} {G : Nat} {v : Value} {Zs : List (List Int)} (h : ListOf w G v Zs) (hb : Below w.heap.size w w') : ListOf w' G v Zs := by
  obtain ⟨cs, o, h1, h2, h3⟩ := h
  have kb := Keep.of_below (X := fun _ => False) hb
  exact ⟨cs, o, h1.keep kb (fun _ _ h => h), h2, h3.keep kb (fun g hg => hg.elim)⟩
theorem map_range_succ {α : Type} (Z : Nat → α) (k : Nat) : (List.range (k + 1)).map Z = (List.range k).map Z ++ [Z k] := by rw [List.range_succ, List.map_append]; rfl
set_option maxHeartbeats 3200000 in
theorem ptexts (a0 : Option Addr) (len cap : Nat) (A : Nat → Option Addr) (C : Nat → Nat) (Z : Nat → List Int) (w : World) (hR : RowsIn w a0 len A C Z) (hl : len ≤ 5000000000000) :
    Calls Try.prog 10 #[.slice a0 len cap] w fun e w' => (∃ v, e = .returned v ∧ ListOf w' w.heap.size v ((List.range len).map Z)) ∧ Below w.heap.size w w' := by
  have HR := Lib.hid hR
  clear hR
  go_enter Try.func10, Try.ntmps10
  go_wp2
  go_loopg [3, 8] len (fun gh v i wx => ∃ k : Nat, k ≤ len ∧ i = .int .i64 (k : Int) ∧ gh = len - k ∧ Hid (ListOf wx w.heap.size v ((List.range k).map Z) ∧ Below w.heap.size w wx))
  case atStart => exact ⟨0, Nat.zero_le _, rfl, rfl, ListOf.nil _ _, Below.refl _ _⟩
  case round =>
    obtain ⟨k, hk, rfl, hg, HK⟩ := hrel
    have HG := Lib.hid hg
    clear hg
    by_cases hlt : k < len
    · obtain ⟨b, off, rfl, hc, hrow⟩ := (HR.out.below HK.out.2) k hlt
      have PC := bclone (A k) (C k) (Z k) wr hrow.bytes (by have := hrow.len; omega) hrow.none hrow.cap
      have HROW := Lib.hid (And.intro hrow.len hrow.range)
      obtain ⟨q, n, _, hv⟩ : ∃ q n, ((List.range k).map Z).length = k ∧ _ = Value.slice q ((List.range k).map Z).length n := by
        obtain ⟨q, n, _, _, e, _⟩ := HK.out.1.rows
        exact ⟨q, n, by simp, e⟩
      rw [show ((List.range k).map Z).length = k from by simp] at hv
      subst hv
      obtain ⟨z, hz⟩ : ∃ z, z = (Z k).length := ⟨_, rfl⟩
      rw [← hz] at hc PC
      have PC := Lib.hid PC
      have HZ := Lib.hid hz
      clear hrow hz
      go_wp2_with fail
      refine PC.out.mono ?_
      rintro e w4 ⟨p4, c4, o4, rfl, R4, ho4, hb4⟩
      rw [HZ.out] at R4 ⊢
      obtain ⟨r4, hp4⟩ := rowOf_clone R4 HROW.out.1 HROW.out.2
      obtain ⟨q5, n5, v5, w5, hv5, run5, hL5, hb5⟩ := HK.out.1.add hb4 HK.out.2.size (by simp; omega) r4 (fun q hq => ⟨ho4 _ (hp4 q hq), R4.free _ (hp4 q hq)⟩)
      have H5 := Lib.hid (And.intro hL5 (HK.out.2.trans ((hb4.mono HK.out.2.size).trans hb5)))
      clear R4 ho4 hb4 r4 hp4 hL5 hb5 hv5
      generalize (Z k).length = zk at *
      go_wp2_with (at_builtin; refine wpl_append rfl _ _ 24 rfl rfl rfl run5 ?_)
      go_roundg (len - (k + 1))
      case measure => rw [HG.out]; omega
      case rel => exact ⟨k + 1, hlt, rfl, rfl, by rw [map_range_succ]; exact H5.out.1, H5.out.2⟩
    · obtain rfl : k = len := by omega
      go_wp2
      go_ret
      exact ⟨⟨_, rfl, HK.out.1⟩, HK.out.2⟩
set_option maxHeartbeats 3200000 in
/-- the same texts are found to be so -/
theorem equal_rows (a0 b0 : Option Addr) (len ca cb : Nat) (A A' : Nat → Option Addr) (C C' : Nat → Nat) (Z Z' : Nat → List Int) (w : World) (hR : RowsIn w a0 len A C Z) (hR' : RowsIn w b0 len A' C' Z') (hZ : ∀ i, i < len → Z i = Z' i) (hl : len ≤ 9223372036854775807) :
    Calls Try.prog 43 #[.slice a0 len ca, .slice b0 len cb, .func (.func 13) #[] #[]] w fun e w' => e = .returned (.bool true) ∧ w = w' := by
  have HR := Lib.hid (And.intro hR (And.intro hR' hZ))
  clear hR hR' hZ
  have hne : ((len : Int) != (len : Int)) = false := bne_self_eq_false _
  go_enter Try.func43, Try.ntmps43
  go_wp2
  go_loopg [17] len (fun gh i wx => ∃ k : Nat, k ≤ len ∧ i = .int .i64 (k : Int) ∧ gh = len - k ∧ wx = w)
  case atStart => exact ⟨0, Nat.zero_le _, rfl, rfl, rfl⟩
  case round =>
    obtain ⟨k, hk, rfl, hg, hwx⟩ := hrel
    have HG := Lib.hid hg
    obtain rfl : w = wr := hwx.symm
    clear hg
    by_cases hlt : k < len
    · obtain ⟨b, off, rfl, hc, hrow⟩ := HR.out.1 k hlt
      obtain ⟨b', off', rfl, hc', hrow'⟩ := HR.out.2.1 k hlt
      have PE := Try.bytes_Equal_all (A k) (A' k) (Z k).length (C k) (Z' k).length (C' k) (Z k) (Z' k) w rfl rfl hrow.bytes hrow'.bytes
      rw [HR.out.2.2 k hlt] at PE hc
      rw [beq_self_eq_true] at PE
      have PE := Lib.hid PE
      generalize (Z' k).length = z at *
      clear hrow hrow'
      go_wp2_with fail
      refine PE.out.mono ?_
      rintro e w' ⟨rfl, hw'⟩
      obtain rfl : w = w' := hw'.symm
      go_wp2
      go_roundg (len - (k + 1))
      case measure => rw [HG.out]; omega
      case rel => exact ⟨k + 1, hlt, rfl, rfl, rfl⟩
    · obtain rfl : k = len := by omega
      go_wp2
      go_ret
      exact ⟨rfl, rfl⟩
theorem same_rows (a0 b0 : Option Addr) (len ca cb : Nat) (A A' : Nat → Option Addr) (C C' : Nat → Nat) (Z Z' : Nat → List Int) (w : World) (hR : RowsIn w a0 len A C Z) (hR' : RowsIn w b0 len A' C' Z') (hZ : ∀ i, i < len → Z i = Z' i) (hl : len ≤ 9223372036854775807) :
    Calls Try.prog 14 #[.slice a0 len ca, .slice b0 len cb] w fun e w' => e = .returned (.bool true) ∧ w = w' := by
  have P := Lib.hid (equal_rows a0 b0 len ca cb A A' C C' Z Z' w hR hR' hZ hl)
  clear hR hR' hZ
  go_enter Try.func14, Try.ntmps14
  go_wp2_with fail
  refine P.out.mono ?_
  rintro e w' ⟨rfl, rfl⟩
  go_wp2
  go_ret
  exact ⟨rfl, rfl⟩
end Go.Proofs.Ytppcccocnmhbgaa
