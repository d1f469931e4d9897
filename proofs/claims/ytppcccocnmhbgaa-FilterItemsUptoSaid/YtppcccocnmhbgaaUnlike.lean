/- The document's unlike: items that are not empty, each once. -/
import Derived.Test.YtppcccocnmhbgaaOnce
import Derived.Lib.Strings
namespace Go.Proofs.Ytppcccocnmhbgaa
open Go Go.RowKit Go.Maps Go.ChangeMaps
set_option linter.unusedSimpArgs false
set_option linter.unusedVariables false
set_option maxRecDepth 100000

theorem anyD_succ (l : List (List Int)) (x : List Int) (j : Nat) (hj : j < l.length) : decide (x ∈ l.take (j + 1)) = (decide (x ∈ l.take j) || decide (x = l.getD j [])) := by
  have e : l.take (j + 1) = l.take j ++ [l.getD j []] := by
    rw [List.take_add_one, List.getElem?_eq_getElem hj, List.getD_eq_getElem?_getD, List.getElem?_eq_getElem hj]; rfl
  rw [e, Bool.eq_iff_iff]
  simp only [decide_eq_true_eq, Bool.or_eq_true, List.mem_append, List.mem_singleton]
theorem unlikeN_ne {Z : Nat → List Int} : ∀ {k : Nat} {x : List Int}, x ∈ unlikeN Z k → 0 < x.length
  | k + 1, x, h => by
    by_cases hc : Z k = [] ∨ Z k ∈ unlikeN Z k
    · rw [unlikeN_skip hc] at h
      exact unlikeN_ne h
    · rw [unlikeN_more hc, List.mem_append] at h
      rcases h with h | h
      · exact unlikeN_ne h
      · have : x = Z k := by simpa using h
        rw [this]
        exact List.length_pos_iff.2 (fun e => hc (.inl e))
theorem getD_mem {l : List (List Int)} {j : Nat} (hj : j < l.length) : l.getD j [] ∈ l := by
  rw [List.getD_eq_getElem?_getD, List.getElem?_eq_getElem hj]; exact List.getElem_mem hj
set_option maxHeartbeats 3200000 in
theorem runlike (a0 : Option Addr) (len cap : Nat) (A : Nat → Option Addr) (C : Nat → Nat) (Z : Nat → List Int) (w : World) (hR : RowsIn w a0 len A C Z) (hl : len ≤ 5000000000000) :
    Calls Try.prog 38 #[.slice a0 len cap] w fun e w' => (∃ v, e = .returned v ∧ ListOf w' w.heap.size v (unlikeN Z len)) ∧ Below w.heap.size w w' := by
  obtain ⟨i0, hi, hz0, hz1, hz2⟩ := info_parts rowinfo
  have HI := Lib.hid (And.intro hi (And.intro hz0 (And.intro hz1 hz2)))
  obtain ⟨j0, hi8, hy0, hy1, hy2⟩ := info_parts u8info'
  have HJ := Lib.hid (And.intro hi8 (And.intro hy0 (And.intro hy1 hy2)))
  clear hi hz0 hz1 hz2 hi8 hy0 hy1 hy2
  have HR := Lib.hid hR
  clear hR
  go_enter Try.func38, Try.ntmps38
  go_wp2
  generalize hgw : w.heap.size = G at *
  go_loopg [3, 11] len (fun gh v i wx => ∃ (k : Nat) (cs : List Value) (o : Option Nat), k ≤ len ∧ i = .int .i64 (k : Int) ∧ gh = len - k ∧ Hid (RowV wx 26 1 v (unlikeN Z k).length cs o ∧ (∀ g, o = some g → G ≤ g) ∧ RowsAt wx G o cs (unlikeN Z k) ∧ Below G w wx))
  case atStart => exact ⟨0, [], none, Nat.zero_le _, rfl, rfl, RowV.nil _ _ _, fun g hg => (by cases hg), RowsAt.nil _ _ _, Below.refl _ _⟩
  case round =>
    obtain ⟨k, cs, o, hk, rfl, hg, HK⟩ := hrel
    have HG := Lib.hid hg
    clear hg
    by_cases hlt : k < len
    · obtain ⟨b, off, rfl, hc, hrow⟩ := (HR.out.below (by rw [hgw]; exact HK.out.2.2.2)) k hlt
      have hacc : ∀ x ∈ unlikeN Z k, ∀ y ∈ x, 0 ≤ y ∧ y ≤ 255 := fun x hx => by
        obtain ⟨i, hi, rfl⟩ := unlikeN_mem hx
        exact (HR.out.row (by omega)).range
      have HACC := Lib.hid hacc
      have HROW := Lib.hid hrow
      have hskip := @unlikeN_skip Z k
      have hmore := @unlikeN_more Z k
      have HSM := Lib.hid (And.intro hskip hmore)
      obtain ⟨qv, cv, AV, CV, rfl, hvle, hvc, hvr⟩ := (show ListOf wr G _ (unlikeN Z k) from ⟨cs, o, HK.out.1, HK.out.2.1, HK.out.2.2.1⟩).rows
      have HV := Lib.hid hvr
      clear hacc hskip hmore hvr
      obtain ⟨z, hz⟩ : ∃ z, z = (Z k).length := ⟨_, rfl⟩
      rw [← hz] at hc
      have HZ := Lib.hid hz
      clear hz hrow
      obtain ⟨u, hu⟩ : ∃ u, u = (unlikeN Z k).length := ⟨_, rfl⟩
      rw [← hu]
      have HU := Lib.hid hu
      have hu5 : u ≤ 5000000000000 := by have := unlikeN_len Z k; omega
      clear hu
      obtain ⟨e0, he0⟩ : ∃ e0 : Bool, e0 = decide (z = 0) := ⟨_, rfl⟩
      have he1 : ((z : Int) == 0) = e0 := by rw [he0, Bool.eq_iff_iff]; simp
      have HE0 := Lib.hid he0
      clear he0
      go_wp2
      go_loopg [6, 20] u (fun gh m i wx => ∃ j : Nat, j ≤ u ∧ m = .bool (e0 || decide (Z k ∈ (unlikeN Z k).take j)) ∧ i = .int .i64 (j : Int) ∧ gh = u - j ∧ wx = wr)
      case atStart => exact ⟨0, Nat.zero_le _, by simp, rfl, rfl, rfl⟩
      case round =>
        obtain ⟨j, hj, rfl, rfl, hg2, hwx⟩ := hrel
        have hwx' := hwx.symm
        subst hwx'
        have HG2 := Lib.hid hg2
        clear hg2
        by_cases hlt2 : j < u
        · obtain ⟨b2, off2, rfl, hc2, hrow2⟩ := HV.out j (by rw [← HU.out]; exact hlt2)
          have hany := anyD_succ (unlikeN Z k) (Z k) j (by rw [← HU.out]; exact hlt2)
          have HANY := Lib.hid hany
          clear hany
          cases hM : (e0 || decide (Z k ∈ (unlikeN Z k).take j)) with
          | true =>
            have hN : (e0 || decide (Z k ∈ (unlikeN Z k).take (j + 1))) = true := by rw [HANY.out, ← Bool.or_assoc, hM, Bool.true_or]
            have HN := Lib.hid hN
            clear hN hM
            go_wp2
            go_roundg (u - (j + 1))
            case measure => rw [HG2.out]; omega
            case rel => exact ⟨j + 1, hlt2, by rw [HN.out], rfl, rfl, rfl⟩
          | false =>
            have he : e0 = false := by cases e0 <;> simp_all
            have hz0 : 0 < z := by rw [HE0.out] at he; have := of_decide_eq_false he; omega
            have hmj := getD_mem (l := unlikeN Z k) (j := j) (by rw [← HU.out]; exact hlt2)
            obtain ⟨pb, po, hA, hcl⟩ := HROW.out.bytes.at (by rw [← HZ.out]; exact hz0)
            obtain ⟨pb2, po2, hA2, hcl2⟩ := hrow2.bytes.at (unlikeN_ne hmj)
            rw [← HZ.out] at hcl
            have hcv := run_convert_bytes_arg (P := Try.prog) wr 26 5 Try.underlying26 Try.underlying5 pb po z (C k) (Z k) HZ.out.symm hcl 9 Try.underlying9
            have hcv2 := run_convert_bytes_arg (P := Try.prog) wr 26 5 Try.underlying26 Try.underlying5 pb2 po2 _ (CV j) ((unlikeN Z k).getD j []) rfl hcl2 9 Try.underlying9
            have hN : (e0 || decide (Z k ∈ (unlikeN Z k).take (j + 1))) = decide (Z k = (unlikeN Z k).getD j []) := by rw [HANY.out, ← Bool.or_assoc, hM, Bool.false_or]
            have hinj : decide (Z k = (unlikeN Z k).getD j []) = decide ((strOfNums (Z k)).data.toList = (strOfNums ((unlikeN Z k).getD j [])).data.toList) := by
              rw [Bool.eq_iff_iff]
              simp only [decide_eq_true_eq]
              exact ⟨fun h => by rw [h], fun h => strOf_inj HROW.out.range hrow2.range h⟩
            rw [hinj] at hN
            have HN := Lib.hid hN
            rw [hA2] at hc2
            rw [← hA] at hcv
            clear hA
            clear hM hinj hN hmj hcl hcl2 hrow2 he
            generalize ((unlikeN Z k).getD j []).length = y at *
            generalize strOfNums ((unlikeN Z k).getD j []) = T at *
            generalize strOfNums (Z k) = S at *
            go_wp2
            go_roundg (u - (j + 1))
            case measure => rw [HG2.out]; omega
            case rel => exact ⟨j + 1, hlt2, by rw [HN.out, Lib.toList_data, Lib.toList_data]; congr 1; rw [Bool.eq_iff_iff]; simp, rfl, rfl, rfl⟩
        · obtain rfl : j = u := by omega
          have hM0 : (unlikeN Z k).take j = unlikeN Z k := List.take_of_length_le (by rw [← HU.out]; exact Nat.le_refl _)
          rw [hM0]
          clear hM0
          cases hM : (e0 || decide (Z k ∈ unlikeN Z k)) with
          | true =>
            have hsk := HSM.out.1 (by
              rw [Bool.or_eq_true] at hM
              rcases hM with h | h
              · rw [HE0.out] at h
                have := of_decide_eq_true h
                exact .inl (List.eq_nil_of_length_eq_zero (by rw [← HZ.out]; exact this))
              · exact .inr (of_decide_eq_true h))
            have HSK := Lib.hid hsk
            clear hsk hM
            go_wp2
            go_roundg (len - (k + 1))
            case measure => rw [HG.out]; omega
            case rel => exact ⟨k + 1, cs, o, hlt, rfl, rfl, by rw [HSK.out, HU.out]; exact HK.out.1, HK.out.2.1, by rw [HSK.out]; exact HK.out.2.2.1, HK.out.2.2.2⟩
          | false =>
            have hmr := HSM.out.2 (by
              rw [Bool.or_eq_false_iff] at hM
              rintro (h | h)
              · have := HE0.out
                rw [hM.1] at this
                have := of_decide_eq_false this.symm
                rw [HZ.out, h] at this
                exact this rfl
              · exact of_decide_eq_false hM.2 h)
            have HMR := Lib.hid hmr
            clear hmr hM
            have bn := Blk.new wr #[] 5
            have R0 : Row (wr.alloc (.cells #[] 5)) 5 (.slice (some ⟨wr.heap.size, 0, none⟩) 0 0) [] (some wr.heap.size) := .inr ⟨wr.heap.size, 0, #[], rfl, rfl, bn, Nat.le_refl _, Nat.le_refl _, (by decide), rfl⟩
            have ka := (Below.refl wr.heap.size wr).alloc (Nat.le_refl _) (.cells #[] 5)
            have hby := HROW.out.below ka
            obtain ⟨v4, w4, o4, run4, R4, ho4, hk4⟩ := row_appendL (P := Try.prog) 26 26 j0 (.int .u8 0) Try.underlying26 HJ.out.1 HJ.out.2.1 HJ.out.2.2.1 HJ.out.2.2.2 rfl R0 (p := A k) (c := C k) (ys := Z k) hby.bytes (by have := hby.len; simp; omega)
            rw [List.nil_append] at R4
            obtain ⟨p4, c4, rfl, _⟩ := R4.form
            obtain ⟨r4, hp4⟩ := rowOf_clone R4 HROW.out.len HROW.out.range
            have hb4 : Below wr.heap.size wr w4 := ka.trans (hk4.below ka.size (fun g hg => by cases hg; exact Nat.le_refl _))
            have hGw : G ≤ wr.heap.size := by rw [← hgw]; exact HK.out.2.2.2.size
            have hGb : ∀ g, o4 = some g → wr.heap.size ≤ g := fun g hg => by
              rcases ho4 with h | ⟨g', h, hg'⟩
              · rw [h] at hg; cases hg; exact Nat.le_refl _
              · rw [h] at hg; cases hg; have := ka.size; omega
            have kb4 := Keep.of_below (X := fun _ => False) hb4
            have rv4 := HK.out.1.keep kb4 (fun _ _ h => h)
            have ra4 := HK.out.2.2.1.keep kb4 (fun g hg => hg.elim)
            have ho3 : ∀ g, o = some g → g < wr.heap.size := fun g hg => HK.out.1.lt g hg
            have hnew : ∀ q, p4 = some q → G ≤ q.block ∧ o ≠ some q.block ∧ FreeAt w4 q.block := fun q hq => by
              have h1 := hp4 q hq
              have h2 := hGb _ h1
              exact ⟨by omega, fun e => by have := ho3 _ e; omega, R4.free _ h1⟩
            have ra5 := ra4.snoc r4 hnew
            have mk5 := rowV_append1 (P := Try.prog) 24 24 i0 (.slice none 0 0) Try.underlying24 HI.out.1 HI.out.2.1 HI.out.2.2.1 HI.out.2.2.2 rfl rv4 (.slice p4 (Z k).length c4) rfl (by have := unlikeN_len Z k; unfold maxLen; omega) (by have := unlikeN_len Z k; omega)
            obtain ⟨g5, c5, w5, run5, rv5, ho5, hk5⟩ := mk5
            have hmv : some g5 = o ∨ ∃ g, some g5 = some g ∧ w4.heap.size ≤ g := by
              rcases ho5 with h | h
              · exact .inl h.symm
              · exact .inr ⟨g5, rfl, h⟩
            have ra6 := ra5.grow hk5 hmv
            have K4 := HK.out.2.2.2.trans (hb4.mono hGw)
            have K5 := K4.trans (hk5.below (by rw [← hgw]; exact K4.size) (fun g hg => HK.out.2.1 _ hg))
            have hg5 : ∀ g, some g5 = some g → G ≤ g := fun g hg => by
              cases hg
              rcases ho5 with h | h
              · exact HK.out.2.1 _ h
              · have := hb4.size; omega
            have e5 : (unlikeN Z k ++ [Z k]).length = (unlikeN Z k).length + 1 := by simp
            have H5 := Lib.hid (And.intro rv5 (And.intro hg5 (And.intro ra6 (And.intro K5 e5))))
            rw [← HZ.out] at run4 run5
            rw [← HU.out] at run5
            clear bn R0 ka hby R4 r4 hp4 ho4 hk4 hb4 hGw hGb kb4 rv4 ra4 ho3 hnew ra5 rv5 ho5 hk5 hmv ra6 K4 K5 hg5 e5
            go_wp2_with (at_builtin; first | (refine wpl_append rfl _ _ 26 rfl rfl rfl run4 ?_) | (refine wpl_append rfl _ _ 24 rfl rfl rfl run5 ?_))
            go_roundg (len - (k + 1))
            case measure => rw [HG.out]; omega
            case rel => exact ⟨k + 1, _, some g5, hlt, rfl, rfl, by rw [HMR.out, H5.out.2.2.2.2, ← HU.out]; have := H5.out.1; rw [← HU.out] at this; exact this, H5.out.2.1, by rw [HMR.out]; exact H5.out.2.2.1, H5.out.2.2.2.1⟩
    · obtain rfl : k = len := by omega
      have HF : Hid (ListOf wr G u3 (unlikeN Z k)) := Lib.hid ⟨cs, o, HK.out.1, HK.out.2.1, HK.out.2.2.1⟩
      go_wp2
      go_ret
      exact ⟨⟨_, rfl, by rw [hgw]; exact HF.out⟩, by rw [hgw]; exact HK.out.2.2.2⟩
end Go.Proofs.Ytppcccocnmhbgaa
