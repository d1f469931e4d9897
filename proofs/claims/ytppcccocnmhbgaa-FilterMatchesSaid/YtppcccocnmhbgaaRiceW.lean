/- The walks of layer 11: the writer's methods. -/
import Derived.Test.YtppcccocnmhbgaaRows
import Derived.Test.YtppcccocnmhbgaaPack
import Derived.Test.YtppcccocnmhbgaaShelf
import Derived.BigQuiet
import Derived.WalkMore
import Derived.ScopeJumps
namespace Go.Proofs.Ytppcccocnmhbgaa
open Go Go.RowKit
set_option maxRecDepth 100000
set_option linter.unusedSimpArgs false

/-- a writer that a call made, in memory: its bits; o: the block of its bytes -/
def WAt (w : World) (p : Nat) (l : List Bool) (o : Option Nat) : Prop :=
  ∃ v, Blk w p #[.bool true, v, .int .i64 (l.length : Int)] 105 ∧ RowV w 5 1 v (nby l.length) (u8s (pack l)) o ∧ o ≠ some p
/-- the blocks of a writer -/
def foot (p : Nat) (o : Option Nat) : Nat → Prop := fun k => k = p ∨ o = some k
theorem u8info : (Try.prog.info? 5).map (fun i => (i.zero, i.size, i.bytes)) = some (some (.int .u8 0), 1, 1) := by kernel_rfl
theorem i64_rem8 (n : Nat) (h : n ≤ 1099511627776) : IntKind.i64.wrap ((n : Int).tmod 8) = ((n % 8 : Nat) : Int) := by
  rw [Int.tmod_eq_emod_of_nonneg (by omega)]
  exact (IntWalk.i64_in _ (by omega)).trans (by omega)
theorem i64_quo8 (n : Nat) (h : n ≤ 1099511627776) : IntKind.i64.wrap ((n : Int).tdiv 8) = ((n / 8 : Nat) : Int) := by
  rw [Int.tdiv_eq_ediv_of_nonneg (by omega)]
  exact (IntWalk.i64_in _ (by omega)).trans (by omega)
theorem or_put (l : List Bool) (b : Bool) : bits .or .u8 (accB l l.length (l.length / 8) : Nat) (IntKind.u64.wrap ((b.toNat : Int) * 2 ^ (7 - l.length % 8)) % 256) = ((accB l l.length (l.length / 8) ||| (b.toNat * 2 ^ (7 - l.length % 8)) : Nat) : Int) := by
  have h1 : b.toNat * 2 ^ (7 - l.length % 8) < 256 := by
    have h2 : 2 ^ (7 - l.length % 8) ≤ 2 ^ 7 := Nat.pow_le_pow_right (by decide) (by omega)
    cases b <;> simp <;> omega
  have e : (b.toNat : Int) * 2 ^ (7 - l.length % 8) = ((b.toNat * 2 ^ (7 - l.length % 8) : Nat) : Int) := by simp
  rw [e, IntWalk.u64_in _ (by omega), Int.emod_eq_of_lt (by omega) (by omega)]
  exact u8_or_nat _ _ (accB_lt _ _ _) h1
/-- the end of put: the bit is set -/
theorem put_end {w : World} {p g cap : Nat} {l : List Bool} {b : Bool} {u : Value} (h1 : Blk w p #[.bool true, .slice (some ⟨g, 0, none⟩) (nby (l.length + 1)) cap, u] 105)
    (h2 : RowV w 5 1 (.slice (some ⟨g, 0, none⟩) (nby (l.length + 1)) cap) (nby (l.length + 1)) (u8s (part (l ++ [b]) l.length)) (some g)) (n1 : g ≠ p) (x : Int) (hx : x = (b.toNat : Int) * 2 ^ (7 - l.length % 8)) :
    WAt (((w.setCell ⟨g, l.length / 8, none⟩ (.int .u8 (bits .or .u8 (accB l l.length (l.length / 8) : Nat) (IntKind.u64.wrap x % 256)))).setCell ⟨p, 2, none⟩ (.int .i64 ((l.length : Int) + 1))).drew) p (l ++ [b]) (some g) ∧
    Keep (foot p (some g)) w (((w.setCell ⟨g, l.length / 8, none⟩ (.int .u8 (bits .or .u8 (accB l l.length (l.length / 8) : Nat) (IntKind.u64.wrap x % 256)))).setCell ⟨p, 2, none⟩ (.int .i64 ((l.length : Int) + 1))).drew) := by
  subst hx
  rw [or_put]
  have hl : ((l ++ [b]).length : Int) = (l.length : Int) + 1 := by simp
  refine ⟨⟨.slice (some ⟨g, 0, none⟩) (nby (l.length + 1)) cap, by rw [hl]; exact ((h1.setFar (fun e => n1 e.symm) _).set 2 _).drew, ?_, fun e => n1 (Option.some.inj e)⟩, ((Keep.set (Keep.refl _ w) (.inl (.inr rfl)) _).set (.inl (.inl rfl)) _).drew⟩
  have h3 := h2.set (l.length / 8) (.int .u8 ((accB l l.length (l.length / 8) ||| (b.toNat * 2 ^ (7 - l.length % 8)) : Nat) : Int)) (by rw [Nat.mul_one]; exact div_nby _)
  rw [← pack_bit] at h3
  have h4 := h3.keep ((Keep.set (X := fun k => k = p) (Keep.refl _ _) (p := ⟨p, 2, none⟩) (.inl rfl) (.int .i64 ((l.length : Int) + 1))).drew) (fun k hk e => n1 (by cases hk; exact e))
  rw [show (l ++ [b]).length = l.length + 1 from by simp]
  exact h4
set_option maxHeartbeats 1600000 in
theorem cput (p : Nat) (l : List Bool) (b : Bool) (o : Option Nat) (w : World) (h : WAt w p l o) (hl : l.length ≤ 1099511627776) :
    Calls Try.prog 69 #[.pointer (some ⟨p, 0, none⟩), .int .u64 (b.toNat : Int)] w fun e w' => e = .returned (.tuple #[]) ∧ ∃ o', WAt w' p (l ++ [b]) o' ∧ (∀ g, o' = some g → o = some g ∨ w.heap.size ≤ g) ∧ Keep (foot p o) w w' := by
  obtain ⟨v, h1, h2, h3⟩ := h
  have hd := div_nby l.length
  by_cases h8 : l.length % 8 = 0
  · obtain ⟨i0, hi, hz0, hz1, hz2⟩ := info_parts u8info
    have hn : nby (l.length + 1) = nby l.length + 1 := by rw [nby_succ, if_pos h8]
    obtain ⟨g, cap, w1, hrun, hrow, hg, hk⟩ := rowV_append1 (P := Try.prog) 26 26 i0 (.int .u8 0) Try.underlying26 hi hz0 hz1 hz2 rfl h2 (.int .u8 0) rfl (by unfold nby maxLen; omega) (by unfold nby; omega)
    have e1 : nby l.length + 1 = nby (l.length + 1) := hn.symm
    have e2 := pack_room l b
    rw [if_pos h8] at e2
    rw [← e2, e1] at hrow
    rw [e1] at hrun
    have n1 : g ≠ p := by
      rcases hg with hg | hg
      · intro e; exact h3 (by rw [hg, e])
      · have := h1.lt; omega
    have n2 : p ≠ g := fun e => n1 e.symm
    have B1 := hk.blk h1 (fun e => h3 e)
    obtain ⟨g', cap', e3, e4, hc1, hc2, hgl, hcell, hfree⟩ := hrow.mem (by omega)
    cases e3; cases e4
    have hlt : l.length / 8 < cap := by omega
    have c1 := hcell (l.length / 8) (by omega)
    rw [u8part_get _ _ _ (by simpa using hd), accB_append _ _ _ _ (Nat.le_refl _)] at c1
    have f1 := hfree (l.length / 8)
    have c := h1.cell
    have c' := B1.cell
    have f' := B1.free
    obtain ⟨vp, vc, rfl, _⟩ := h2.form
    have HB := Lib.hid B1
    have HR := Lib.hid hrow
    have HK := Lib.hid hk
    have HG := Lib.hid hg
    clear hcell hfree h3 h1 h2 hrow hk B1 hg hn e1 e2
    go_enter Try.func69, Try.ntmps69
    go_wp2_with (at_builtin; refine wpl_append rfl _ _ 26 rfl rfl rfl hrun ?_)
    go_region
    go_wp2
    go_end0
    have K1 := Keep.set (X := fun k => k = p) (Keep.refl _ w1) (p := ⟨p, 1, none⟩) (.inl rfl) (.slice (some ⟨g, 0, none⟩) (nby (l.length + 1)) cap)
    obtain ⟨e1, e2⟩ := put_end (b := b) (HB.out.set 1 (.slice (some ⟨g, 0, none⟩) (nby (l.length + 1)) cap)) (HR.out.keep K1 (fun k hk e => n1 (by cases hk; exact e))) n1 ((b.toNat : Int) * 128) (by rw [h8]; rfl)
    refine ⟨rfl, some g, e1, fun g' e => by cases e; exact HG.out, ?_⟩
    refine ((HK.out.mono fun k e => .inr e).trans (K1.mono fun k e => .inl e)).trans' e2 fun k e => ?_
    rcases e with e | e
    · exact .inl (.inl e)
    · cases e; exact HG.out.imp .inr id
  · have hn : nby l.length = nby (l.length + 1) := by rw [nby_succ, if_neg h8]
    rw [hn, ← (if_neg h8 : _ = u8s (pack l)), ← pack_room l b] at h2
    obtain ⟨g, cap, rfl, rfl, hc1, hc2, hg, hcell, hfree⟩ := h2.mem (by omega)
    have hlt : l.length / 8 < cap := by omega
    have c1 := hcell (l.length / 8) (by omega)
    rw [u8part_get _ _ _ (by simpa using hd), accB_append _ _ _ _ (Nat.le_refl _)] at c1
    have f1 := hfree (l.length / 8)
    have c := h1.cell
    have f := h1.free
    have n1 : g ≠ p := fun e => h3 (by rw [e])
    have n2 : p ≠ g := fun e => h3 (by rw [e])
    have H1 := Lib.hid h1
    have H2 := Lib.hid h2
    clear hcell hfree h3 h1 h2
    go_enter Try.func69, Try.ntmps69
    go_wp2
    go_region
    go_wp2
    go_end0
    obtain ⟨e1, e2⟩ := put_end (b := b) H1.out H2.out n1 _ rfl
    exact ⟨rfl, some g, e1, fun g' e => .inl e, e2⟩
end Go.Proofs.Ytppcccocnmhbgaa
