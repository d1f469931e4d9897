import Derived.Test.YtppcccocnmhbgaaFl24
import Derived.Test.YtppcccocnmhbgaaFl18
import Derived.Test.YtppcccocnmhbgaaFl1
import Derived.Test.YtppcccocnmhbgaaFl26
import Derived.Test.YtppcccocnmhbgaaFl16
import Derived.Test.YtppcccocnmhbgaaFl6
section
/- The law FilterRises, walked. -/
namespace Go.Proofs.Ytppcccocnmhbgaa
open Go Go.RowKit Go.Maps Go.ChangeMaps
set_option linter.unusedSimpArgs false
set_option linter.unusedVariables false
set_option maxRecDepth 100000

theorem below_drewT {B : Nat} {a w : World} (h : Below B a w) (n : Nat) : Below B a (w.drewN n) := ⟨h.os, h.tape, h.output, h.size, h.block⟩
theorem sorted_step {l : List Nat} (h : l.Pairwise (· ≤ ·)) {j : Nat} (hj : j + 1 < l.length) : l.getD j 0 ≤ l.getD (j + 1) 0 := by
  have e1 : l.getD j 0 = l[j] := by rw [List.getD_eq_getElem?_getD, List.getElem?_eq_getElem (by omega)]; rfl
  have e2 : l.getD (j + 1) 0 = l[j + 1] := by rw [List.getD_eq_getElem?_getD, List.getElem?_eq_getElem hj]; rfl
  rw [e1, e2]
  exact List.pairwise_iff_getElem.1 h j (j + 1) (by omega) hj (by omega)
set_option maxHeartbeats 3200000 in
theorem is_sorted (q : Option Addr) (c : Nat) (l : List Nat) (w : World) (hU : U64In w q l) (hs : l.Pairwise (· ≤ ·)) (hl : l.length ≤ 1000000) :
    Calls Try.prog 25 #[.slice q l.length c] w fun e w' => e = .returned (.bool true) ∧ Below w.heap.size w w' := by
  have HU := Lib.hid (And.intro hU hs)
  obtain ⟨n, hn⟩ : ∃ n, n = l.length := ⟨_, rfl⟩
  rw [← hn] at hl ⊢
  have HN := Lib.hid hn
  clear hU hs hn
  go_enter Try.func25, Try.ntmps25
  go_wp2
  go_loopg [3] n (fun gh i wx => ∃ k : Nat, k ≤ n ∧ i = .int .i64 ((k : Int) - 1) ∧ gh = k ∧ Hid (Below w.heap.size w wx))
  case atStart => exact ⟨n, Nat.le_refl _, rfl, rfl, Below.refl _ _⟩
  case round =>
    obtain ⟨k, hk, rfl, hg, HB⟩ := hrel
    have HG := Lib.hid hg
    clear hg
    by_cases hk2 : 2 ≤ k
    · obtain ⟨j, rfl⟩ : ∃ j, k = j + 2 := ⟨k - 2, by omega⟩
      have hi : (((j + 2 : Nat) : Int) - 1) = ((j + 1 : Nat) : Int) := by omega
      rw [hi]
      obtain ⟨b, rfl, c1⟩ := (HU.out.1.below HB.out) (j + 1) (by rw [← HN.out]; omega)
      obtain ⟨b', e', c0⟩ := (HU.out.1.below HB.out) j (by rw [← HN.out]; omega)
      cases e'
      have hle := sorted_step HU.out.2 (j := j) (by rw [← HN.out]; omega)
      generalize l.getD (j + 1) 0 = y at *
      generalize l.getD j 0 = x at *
      have hjn : j + 1 < n := by omega
      have hjn0 : j < n := by omega
      have d0 : decide ((0 : Int) < (j : Int) + 1) = true := decide_eq_true (by omega)
      have hlt : Sort.ltInt (y : Int) (x : Int) = false := by unfold Sort.ltInt; exact decide_eq_false (by omega)
      have hji : ((j : Int) + 1 - 1) = (j : Int) := by omega
      go_wp2
      go_quiet (first | (go_at_call 53; refine Calls.quiet_of_same (cmp_Less_u64 _ _ _)))
      have HLT := Lib.hid hlt
      go_wp2
      · exfalso
        have hl : Sort.ltInt (y : Int) (x : Int) = true := by assumption
        rw [HLT.out] at hl; cases hl
      go_roundg (j + 1)
      case measure => rw [HG.out]; omega
      case rel => exact ⟨j + 1, by omega, by first | rfl | (congr 1; omega), rfl, below_drewT HB.out _⟩
    · have d0 : decide ((0 : Int) < (k : Int) - 1) = false := decide_eq_false (by omega)
      go_wp2
      go_ret
      exact ⟨rfl, HB.out⟩
theorem metF_in {acc : List (List Int)} (ha : ∀ x ∈ acc, ∀ y ∈ x, 0 ≤ y ∧ y ≤ 255) {x : List Int} (hx : ∀ y ∈ x, 0 ≤ y ∧ y ≤ 255) : metF acc (.string (strOfNums x)) = if x ∈ acc then some (.bool true) else none := by
  rw [metF_str]
  by_cases h : x ∈ acc
  · rw [if_pos (by rw [List.any_eq_true]; exact ⟨x, h, by simp⟩), if_pos h]
  · rw [if_neg (fun hc => by
      rw [List.any_eq_true] at hc
      obtain ⟨z, hz, e⟩ := hc
      exact h (strOf_inj (ha z hz) hx (by simpa using e) ▸ hz)), if_neg h]
set_option maxHeartbeats 6400000 in
theorem rises_walk (n : Nat) (a0 : Option Addr) (len cap : Nat) (A : Nat → Option Addr) (C : Nat → Nat) (Z : Nat → List Int) (w : World)
    (hl : len ≤ 9223372036854775807) (hlc : len ≤ cap) (hcap : cap ≤ 9223372036854775807) (hR : RowsIn w a0 len A C Z) :
    Calls Try.prog 6 #[hv n, .slice a0 len cap] w fun e w' => e = .returned (.bool true) ∧ Below w.heap.size w w' := by
  have B0 := Blk.new w (hcs n) 23
  have K0 := (Below.refl w.heap.size w).alloc (Nat.le_refl _) (.cells (hcs n) 23)
  obtain ⟨L, hL⟩ : ∃ L, L = min len 60 := ⟨_, rfl⟩
  have hLl : L ≤ len := by omega
  have hmin : min (len : Int) 60 = (L : Int) := by omega
  have hLi : (L : Int) ≤ (cap : Int) := by omega
  have hLn : L ≤ cap := by omega
  have hL1 : L ≤ 60 := by omega
  have hRL := Lib.hid (hR.less hLl)
  have PB := Lib.hid (fun (wx : World) (hb : Below w.heap.size w wx) => pbuild1 n a0 L cap A C Z wx (hRL.out.below hb) (by omega))
  have PA := Lib.hid (fun (wx : World) => awake_true wx)
  have hbl := buildS_len (n := n) (U := unlikeN Z L) (Nat.le_trans (unlikeN_len Z L) (by omega))
  have hbr := buildS_range n (unlikeN Z L)
  have hvs := values_build' (n := n) (Z := Z) (L := L) (by omega)
  obtain ⟨vs, hvv⟩ : ∃ vs, vs = sortN ((unlikeN Z L).map (itemV n (unlikeN Z L).length)) := ⟨_, rfl⟩
  have hvl : vs.length = (unlikeN Z L).length := by rw [hvv, sortN_length, List.length_map]
  have hvp : vs.Pairwise (· ≤ ·) := by rw [hvv]; exact sortN_sorted _
  have hvb : ∀ v ∈ vs, v < vs.length * 784931 := fun v hv => by
    rw [hvl]
    rw [hvv] at hv
    obtain ⟨Y, hY, rfl⟩ := List.mem_map.1 ((mem_sortN _).1 hv)
    exact itemV_lt' n _ Y (List.length_pos_of_mem hY)
  have hul := unlikeN_len Z L
  rw [← hvv] at hvs
  obtain ⟨bs, hbs⟩ : ∃ bs, bs = buildS n (unlikeN Z L) := ⟨_, rfl⟩
  rw [← hbs] at PB hbl hbr hvs
  have HV := Lib.hid (And.intro hbr (And.intro hvs (And.intro hvl (And.intro hvp (And.intro hvb hbl)))))
  have HB := Lib.hid (And.intro B0 K0)
  have hvm : vs.length ≤ 60 := by omega
  clear B0 K0 hR hL hLl hbs hbr hvs hvl hvp hvb hbl hvv hul
  go_enter Try.func6, Try.ntmps6
  go_upto_region 2 with fail
  have bx := HB.out.1
  generalize w.alloc (.cells (hcs n) 23) = w0 at *
  generalize hgw : w.heap.size = hb at *
  go_wp2_with (refine wpl_load rfl 23 (.tmp 2) rfl rfl bx Try.underlying23 (by rw [hcs_size]; kernel_rfl) ?_)
  refine (PB.out _ HB.out.2).mono ?_
  rintro e w1 ⟨p, c, o, rfl, hb1, hrow⟩
  have K1 := Lib.hid (HB.out.2.trans (hb1.mono (by rw [← hgw]; exact HB.out.2.size)))
  have hg1 : hb ≤ w1.heap.size := by rw [← hgw]; exact K1.out.size
  obtain ⟨_, _, e0, hy, hcp, hcm, _⟩ := hrow.form
  cases e0
  have PV := Lib.hid (pvalues bs p c w1 hy HV.out.1 hcp hcm (by have := HV.out.2.2.2.2.2; omega))
  clear bx hb1 hrow hy hcm hcp
  generalize bs.length = bl at *
  go_upto_region 3 with fail
  go_wp2_with fail
  refine PV.out.mono ?_
  rintro e w2 ⟨hb2, ⟨hno, _⟩ | ⟨l, v, o2, hsm, rfl, rv, _⟩⟩
  · rw [HV.out.2.1] at hno; cases hno
  rw [HV.out.2.1] at hsm
  cases hsm
  obtain ⟨q, c2, rfl, hU⟩ := U64In.of_row rv
  have K2 := Lib.hid (K1.out.trans (hb2.mono hg1))
  have hg2 : hb ≤ w2.heap.size := by rw [← hgw]; exact K2.out.size
  have HU := Lib.hid hU
  have M0 := Lib.hid (KMap.made w2 Try.prog 9)
  have K3 := Lib.hid ((Below.refl w2.heap.size w2).alloc (Nat.le_refl _) (.map #[] 0))
  clear hb2 rv hU
  obtain ⟨vn, hvn⟩ : ∃ vn, vn = vs.length := ⟨_, rfl⟩
  rw [← hvn] at hvm ⊢
  have HVN := Lib.hid hvn
  clear hvn
  go_upto_region 5 with (refine wpl_makeMap rfl _ rfl ?_)
  generalize w2.alloc (.map #[] 0) = w3 at *
  generalize hgm : w2.heap.size = g at *
  go_wp2
  go_loopg [33] L (fun gh i wx => ∃ k : Nat, k ≤ L ∧ i = .int .i64 (k : Int) ∧ gh = L - k ∧ Hid (KMap Try.prog 9 wx g (metF (unlikeN Z k)) (unlikeN Z k).length ∧ Below g w2 wx))
  case atStart => exact ⟨0, Nat.zero_le _, rfl, rfl, by show KMap Try.prog 9 w3 g (metF []) 0; rw [metF_nil]; exact M0.out, K3.out⟩
  case round =>
    obtain ⟨k, hk, rfl, hg, HK⟩ := hrel
    have HG := Lib.hid hg
    clear hg
    have KW := Lib.hid (K2.out.trans (HK.out.2.mono (by omega)))
    by_cases hlt : k < L
    · obtain ⟨b, off, rfl, hc, hrow⟩ := (hRL.out.below (by rw [hgw]; exact KW.out)) k hlt
      have hacc : ∀ x ∈ unlikeN Z k, ∀ y ∈ x, 0 ≤ y ∧ y ≤ 255 := fun x hx => by
        obtain ⟨i, hi, rfl⟩ := unlikeN_mem hx
        obtain ⟨_, _, _, _, h⟩ := hRL.out i (by omega)
        exact h.range
      have hmi := metF_in hacc hrow.range
      obtain ⟨z, hz⟩ : ∃ z, z = (Z k).length := ⟨_, rfl⟩
      rw [← hz] at hc
      have HZ := Lib.hid hz
      by_cases hz0 : z = 0
      · subst hz0
        have HSK : Hid (unlikeN Z (k + 1) = unlikeN Z k) := Lib.hid (unlikeN_skip (.inl (List.eq_nil_of_length_eq_zero hz.symm)))
        clear hrow hmi hacc hz
        go_wp2
        go_roundg (L - (k + 1))
        case measure => rw [HG.out]; omega
        case rel => exact ⟨k + 1, hlt, rfl, rfl, by rw [HSK.out]; exact HK.out.1, HK.out.2⟩
      · have z1 : (0 : Int) < (z : Int) := by omega
        have z2 : decide ((0 : Int) < (z : Int)) = true := decide_eq_true z1
        obtain ⟨pb, po, hA, hcl⟩ := hrow.bytes.at (by rw [← HZ.out]; omega)
        rw [← HZ.out] at hcl
        have hcv := run_convert_bytes_arg (P := Try.prog) wr 26 5 Try.underlying26 Try.underlying5 pb po z (C k) (Z k) HZ.out.symm hcl 9 Try.underlying9
        have hkey : keyOf Try.prog 9 (.string (strOfNums (Z k))) = some (.string (strOfNums (Z k)).data.toList) := keyOf_string Try.underlying9 _ (by rw [strOfNums_size]; have := hrow.len; unfold maxLen; omega)
        rw [hA] at hc
        have hne : Z k ≠ [] := fun e => by rw [e] at hz; exact hz0 hz
        have hst : ∃ w5, (Instr.mapUpdate 50 (.map (some g)) (.string (strOfNums (Z k))) (.bool true)).run Try.prog wr = .ok () w5 ∧ KMap Try.prog 9 w5 g (metF (unlikeN Z (k + 1))) (unlikeN Z (k + 1)).length ∧ Keep (fun x => x = g) wr w5 := by
          have hnl : (unlikeN Z k).length < maxLen := by have := unlikeN_len Z k; unfold maxLen; omega
          by_cases hin : Z k ∈ unlikeN Z k
          · rw [if_pos hin] at hmi
            obtain ⟨w5, h1, h2, h3⟩ := HK.out.1.store (string_keyed Try.underlying9) Try.underlying50 hnl hkey (.bool true) (metF (unlikeN Z k)) hmi (fun _ _ => rfl)
            rw [hmi] at h2
            rw [unlikeN_skip (.inr hin)]
            exact ⟨w5, h1, h2, h3⟩
          · rw [if_neg hin] at hmi
            have hmr := unlikeN_more (Z := Z) (k := k) (fun h => h.elim hne hin)
            obtain ⟨w5, h1, h2, h3⟩ := HK.out.1.store (string_keyed Try.underlying9) Try.underlying50 hnl hkey (.bool true) (metF (unlikeN Z (k + 1))) (by rw [hmr]; exact metF_same _ _) (fun y hy => by rw [hmr]; exact metF_other _ _ y hy)
            rw [hmi] at h2
            have e : (unlikeN Z (k + 1)).length = (unlikeN Z k).length + 1 := by rw [hmr]; simp
            rw [e]
            exact ⟨w5, h1, h2, h3⟩
        obtain ⟨w5, hrunS, m5, k5⟩ := hst
        have H5 := Lib.hid (And.intro m5 (HK.out.2.trans (k5.below (B := g) (by rw [← hgm]; exact HK.out.2.size) (fun x hx => by rw [hx]; exact Nat.le_refl _))))
        clear hrow hmi hacc hz hkey hne m5 k5 hcl hA
        generalize strOfNums (Z k) = S at *
        go_wp2
        go_roundg (L - (k + 1))
        case measure => rw [HG.out]; omega
        case rel => exact ⟨k + 1, hlt, rfl, rfl, H5.out⟩
    · obtain rfl : k = L := by omega
      have hln := HK.out.1.len (t := 50) (e := 4) Try.underlying50
      rw [← HV.out.2.2.1, ← HVN.out] at hln
      have U4 := HU.out.below (w' := wr) (by rw [hgm]; exact HK.out.2)
      have PI := is_sorted q c2 vs wr U4 HV.out.2.2.2.1 (by rw [← HVN.out]; omega)
      rw [← HVN.out] at PI
      have PI := Lib.hid PI
      have HU4 := Lib.hid U4
      have hnn : ((vn : Int) != (vn : Int)) = false := bne_self_eq_false _
      have hgr : hb ≤ wr.heap.size := by rw [← hgw]; exact KW.out.size
      clear U4
      go_wp2_with fail
      refine PI.out.mono ?_
      rintro e w6 ⟨rfl, hb6⟩
      have K6 := Lib.hid (KW.out.trans (hb6.mono hgr))
      have HU6 := Lib.hid (HU4.out.below hb6)
      have hg6 : hb ≤ w6.heap.size := by rw [← hgw]; exact K6.out.size
      clear hb6
      go_wp2
      go_loopg [64] vn (fun gh i wx => ∃ j : Nat, j ≤ vn ∧ i = .int .i64 (j : Int) ∧ gh = vn - j ∧ wx = w6)
      case atStart => exact ⟨0, Nat.zero_le _, rfl, rfl, rfl⟩
      case round =>
        obtain ⟨j, hj, rfl, hg, hwx⟩ := hrel
        have HG2 := Lib.hid hg
        obtain rfl : w6 = wr := hwx.symm
        clear hg
        by_cases hjl : j < vn
        · have hjv : j < vs.length := by rw [← HVN.out]; exact hjl
          obtain ⟨b, rfl, cj⟩ := HU6.out j hjv
          have hvb := HV.out.2.2.2.2.1 (vs.getD j 0) (by rw [List.getD_eq_getElem?_getD, List.getElem?_eq_getElem hjv]; exact List.getElem_mem hjv)
          rw [← HVN.out] at hvb
          generalize vs.getD j 0 = y at *
          have dz : decide ((vn : Int) * 784931 ≤ (y : Int)) = false := decide_eq_false (by omega)
          have wz : IntKind.u64.wrap ((vn : Int) * 784931) = (vn : Int) * 784931 := by rw [IntKind.wrap_u64]; omega
          go_wp2
          go_roundg (vn - (j + 1))
          case measure => rw [HG2.out]; omega
          case rel => exact ⟨j + 1, hjl, rfl, rfl, rfl⟩
        · obtain rfl : j = vn := by omega
          go_wp2_with fail
          refine (PA.out _).mono ?_
          rintro e w7 ⟨rfl, hb7⟩
          have K7 := Lib.hid (K6.out.trans (hb7.mono hg6))
          clear hb7
          go_wp2
          go_ret
          exact ⟨rfl, by rw [hgw]; exact K7.out⟩
end Go.Proofs.Ytppcccocnmhbgaa
end

section
/- The walks of the filter's laws, together. -/
namespace Go.Proofs.Ytppcccocnmhbgaa
theorem all_there : True := trivial
end Go.Proofs.Ytppcccocnmhbgaa
end
