/- A filter's numbers: Values, both sides. -/
import Derived.Test.YtppcccocnmhbgaaVals
import Derived.Test.YtppcccocnmhbgaaDecR
namespace Go.Proofs.Ytppcccocnmhbgaa
open Go Go.RowKit
set_option linter.unusedSimpArgs false
set_option linter.unusedVariables false
set_option maxRecDepth 100000

def u64s (l : List Nat) : List Value := l.map fun (n : Nat) => Value.int .u64 (n : Int)
theorem u64s_length (l : List Nat) : (u64s l).length = l.length := by simp [u64s]
theorem u64s_snoc (l : List Nat) (n : Nat) : u64s l ++ [.int .u64 (n : Int)] = u64s (l ++ [n]) := by simp [u64s]
/-- what 'Values' answers -/
def ValPost (bs : List Int) (w : World) (e : Ending) (w' : World) : Prop :=
  Below w.heap.size w w' ∧ ((valuesS bs = none ∧ e = .returned (.tuple #[.slice none 0 0, .int .i64 120])) ∨
    ∃ l v o, valuesS bs = some l ∧ e = .returned (.tuple #[v, .int .i64 0]) ∧ RowV w' 52 1 v l.length (u64s l) o ∧ (∀ g, o = some g → w.heap.size ≤ g))
theorem ValPost.no {bs : List Int} {w w' : World} (h : valuesS bs = none) (hb : Below w.heap.size w w') : ValPost bs w (.returned (.tuple #[.slice none 0 0, .int .i64 120])) w' := ⟨hb, .inl ⟨h, rfl⟩⟩
theorem ValPost.yes {bs : List Int} {w w' : World} {l : List Nat} {v : Value} {o : Option Nat} (h : valuesS bs = some l) (hv : RowV w' 52 1 v l.length (u64s l) o) (ho : ∀ g, o = some g → w.heap.size ≤ g) (hb : Below w.heap.size w w') : ValPost bs w (.returned (.tuple #[v, .int .i64 0])) w' := ⟨hb, .inr ⟨l, v, o, h, rfl, hv, ho⟩⟩
section
variable {bs : List Int} {l : List Nat} {s : List Bool}
theorem vs_dec (h : decE bs ≠ 0) : valuesS bs = none := by unfold valuesS; rw [if_pos (.inl h)]
theorem vs_many (h : 20000 < decN bs) : valuesS bs = none := by unfold valuesS; rw [if_pos (.inr h)]
theorem vs_loop (h0 : decE bs = 0) (h1 : ¬ 20000 < decN bs) (h : valLoop (decN bs) (decN bs) 0 (unpack (decR bs)) = none) : valuesS bs = none := by
  unfold valuesS; rw [if_neg (by simp [h0]; omega), h]
theorem vs_left (h0 : decE bs = 0) (h1 : ¬ 20000 < decN bs) (h : valLoop (decN bs) (decN bs) 0 (unpack (decR bs)) = some (l, s)) (h7 : 7 < s.length) : valuesS bs = none := by
  unfold valuesS; rw [if_neg (by simp [h0]; omega), h]; simp only; rw [if_pos h7]
theorem vs_bits (h0 : decE bs = 0) (h1 : ¬ 20000 < decN bs) (h : valLoop (decN bs) (decN bs) 0 (unpack (decR bs)) = some (l, s)) (h7 : ¬ 7 < s.length) (hv : valOf s ≠ 0) : valuesS bs = none := by
  unfold valuesS; rw [if_neg (by simp [h0]; omega), h]; simp only; rw [if_neg h7, if_pos hv]
theorem vs_some (h0 : decE bs = 0) (h1 : ¬ 20000 < decN bs) (h : valLoop (decN bs) (decN bs) 0 (unpack (decR bs)) = some (l, s)) (h7 : ¬ 7 < s.length) (hv : valOf s = 0) : valuesS bs = some l := by
  unfold valuesS; rw [if_neg (by simp [h0]; omega), h]; simp only; rw [if_neg h7, if_neg (by simp [hv])]
end
theorem u64inf : (Try.prog.info? 52).map (fun i => (i.zero, i.size, i.bytes)) = some (some (.int .u64 0), 1, 8) := by kernel_rfl
theorem kd1 {X : Nat → Prop} {a w : World} (h : Keep X a a) (k : Keep X a.drew w) : Keep X a w := h.drew.trans k
theorem kd2 {X : Nat → Prop} {a w : World} (h : Keep X a a) (k : Keep X a.drew.drew w) : Keep X a w := h.drew.drew.trans k
theorem RfAt.lt {w : World} {r : Nat} {s : List Bool} (h : RfAt w r s) : r < w.heap.size := by
  obtain ⟨q, c, A, Z, h1, _⟩ := h
  exact h1.lt
set_option maxHeartbeats 6400000 in
theorem pvalues (bs : List Int) (q : Option Addr) (c : Nat) (w : World) (hy : Lib.BytesIn w q bs.length bs) (hr : ∀ y ∈ bs, 0 ≤ y ∧ y ≤ 255) (hc : bs.length ≤ c) (hcm : c ≤ 9223372036854775807) (hl47 : bs.length ≤ 140737488355328) :
    Calls Try.prog 24 #[.slice q bs.length c] w (ValPost bs w) := by
  obtain ⟨i0, hi, hz0, hz1, hz2⟩ := info_parts u64inf
  have HI := Lib.hid (And.intro hi (And.intro hz0 (And.intro hz1 hz2)))
  have PD := Lib.hid (pdecode bs q c w hy hr hc hcm hl47)
  have HRD := Lib.hid (show (∀ y ∈ decR bs, 0 ≤ y ∧ y < 256) ∧ (decR bs).length ≤ 140737488355328 from by
    cases bs with
    | nil => exact ⟨fun y hy => by (cases hy), by decide⟩
    | cons b r =>
      refine ⟨fun y hy => ?_, ?_⟩
      · have := hr y (List.mem_cons_of_mem _ (List.mem_of_mem_drop hy)); omega
      · show (r.drop (decW b)).length ≤ _
        rw [List.length_drop]; rw [List.length_cons] at hl47; omega)
  clear hy hr hc hi hz0 hz1 hz2
  go_enter Try.func24, Try.ntmps24
  go_wp2_with fail
  refine PD.out.mono ?_
  rintro e w1 ⟨x, v, rfl, hb, h0, h1⟩
  by_cases hE : decE bs = 0
  · obtain ⟨hx, o, hrow, ho⟩ := h0 hE
    rw [hE]
    subst hx
    clear h0 h1
    have HE := Lib.hid hE
    clear hE
    obtain ⟨n, hn⟩ : ∃ n, n = decN bs := ⟨_, rfl⟩
    rw [← hn]
    have HNN := Lib.hid hn
    clear hn
    by_cases hbig : 20000 < n
    · have HV := Lib.hid (vs_many (bs := bs) (by rw [← HNN.out]; exact hbig))
      have d1 : decide ((20000 : Int) < (n : Int)) = true := decide_eq_true (by omega)
      have HB := Lib.hid hb
      clear hb hbig hrow
      go_wp2
      exact bodyPost_ret (results_tmp2 Try.results24 _ _ _) rfl (ValPost.no HV.out HB.out)
    · have d1 : decide ((20000 : Int) < (n : Int)) = false := decide_eq_false (by omega)
      have hn2 : n ≤ 20000 := by omega
      have HBIG := Lib.hid hbig
      obtain ⟨p2, c2, rfl, hby, hle2, hcm2, hq2⟩ := hrow.form
      have PO := Lib.hid (vopen p2 c2 o (decR bs) w1 hrow HRD.out.1 HRD.out.2)
      have HB := Lib.hid hb
      clear hb hbig hrow hby hle2 hq2 ho
      go_wp2_with fail
      refine PO.out.mono ?_
      rintro e w2 ⟨r, rfl, hrd, hrr, hb2⟩
      have HB2 := Lib.hid (And.intro hrd (And.intro hrr (HB.out.trans (hb2.mono HB.out.size))))
      clear hrd hrr hb2
      generalize hgw : w.heap.size = G at *
      obtain ⟨S0, hS0⟩ : ∃ S0, S0 = unpack (decR bs) := ⟨_, rfl⟩
      rw [← hS0] at HB2
      have HS0 := Lib.hid hS0
      clear hS0
      have hrr' : G ≤ r := by have := HB2.out.2.1; have := HB.out.size; omega
      go_wp2
      go_loopg [8, 9, 30] n (fun gh v su i wx => ∃ (k sum : Nat) (l : List Nat) (o : Option Nat) (s : List Bool), k ≤ n ∧ sum ≤ 20000000000 ∧ su = .int .u64 (sum : Int) ∧ i = .int .u64 (k : Int) ∧ gh = n - k ∧ Hid (l.length = k ∧ RowV wx 52 1 v k (u64s l) o ∧ (∀ g, o = some g → r < g) ∧ RdAt wx r s ∧ Below G w wx ∧ ValInv n S0 l (n - k) sum s))
      case atStart => exact ⟨0, 0, [], none, S0, Nat.zero_le _, by decide, rfl, rfl, rfl, rfl, RowV.nil _ _ _, fun g hg => (by cases hg), HB2.out.1, by rw [← hgw]; rw [← hgw] at HB2; exact HB2.out.2.2, ValInv.start n S0⟩
      case round =>
        obtain ⟨k, sum, l, o, s, hk, hsum, rfl, rfl, hg, HR⟩ := hrel
        have HGK := Lib.hid hg
        clear hg
        by_cases hlt : k < n
        · have m2 : IntKind.u64.wrap (2 * (n : Int)) = 2 * (n : Int) := IntWalk.u64_in _ (by omega)
          have PR := vriceA r s (2 * n) wr HR.out.2.2.2.1 (by omega)
          rw [show ((2 * n : Nat) : Int) = 2 * (n : Int) from by omega] at PR
          have PR := Lib.hid PR
          have hmk : n - k = (n - (k + 1)) + 1 := by omega
          have HINV := HR.out.2.2.2.2.2
          rw [hmk] at HINV
          cases hro : riceO 19 (2 * n) s with
          | none =>
            have HV := Lib.hid (vs_loop (bs := bs) HE.out (by rw [← HNN.out]; exact HBIG.out) (by
              have := HINV
              unfold ValInv at this
              rw [valLoop_none hro] at this
              rw [← HNN.out, ← HS0.out]; exact this))
            rw [hro] at PR
            have HRR := Lib.hid (And.intro hrr' HR.out.2.2.2.2.1)
            clear hro HINV
            go_wp2_with fail
            refine PR.out.mono ?_
            rintro e w3 ⟨hk3, y, hy, rfl⟩
            have HK := Lib.hid (HRR.out.2.trans (hk3.below (by rw [← hgw]; exact HRR.out.2.size) (fun k hk => by rw [hk]; exact HRR.out.1)))
            have hy0 : (y != 0) = true := by rw [bne_iff_ne]; omega
            have hs2 : IntKind.u64.wrap ((sum : Int)) = (sum : Int) := IntWalk.u64_in _ (by omega)
            clear hy hk3
            subst hgw
            go_wp2
            all_goals exact bodyPost_ret (results_tmp2 Try.results24 _ _ _) rfl (ValPost.no HV.out HK.out)
          | some ds =>
            obtain ⟨d, s'⟩ := ds
            have hd := rice_small hro
            have hd2 : d ≤ 30000000000 := by
              have : (2 * n + 1) * 2 ^ 19 ≤ 40001 * 2 ^ 19 := Nat.mul_le_mul_right _ (by omega)
              omega
            have hsw : IntKind.u64.wrap ((sum : Int) + (d : Int)) = (sum : Int) + (d : Int) := IntWalk.u64_in _ (by omega)
            have hnw : IntKind.u64.wrap ((n : Int) * 784931) = (n : Int) * 784931 := IntWalk.u64_in _ (by omega)
            have HINS := Lib.hid (fun h => HINV.step hro h)
            have HVN := Lib.hid (fun h => vs_loop (bs := bs) HE.out (by rw [← HNN.out]; exact HBIG.out) (by
              have := HINV
              unfold ValInv at this
              rw [valLoop_over hro h] at this
              rw [← HNN.out, ← HS0.out]; exact this))
            rw [hro] at PR
            have HRR := Lib.hid (And.intro hrr' HR.out.2.2.2.2.1)
            clear hro HINV hd
            by_cases hov : n * 784931 ≤ sum + d
            · have HV := Lib.hid (HVN.out hov)
              have d3 : decide ((n : Int) * 784931 ≤ (sum : Int) + (d : Int)) = true := decide_eq_true (by omega)
              clear hov HINS HVN
              go_wp2_with fail
              refine PR.out.mono ?_
              rintro e w3 ⟨hk3, rfl, _⟩
              have HK := Lib.hid (HRR.out.2.trans (hk3.below (by rw [← hgw]; exact HRR.out.2.size) (fun k hk => by rw [hk]; exact HRR.out.1)))
              clear hk3
              subst hgw
              go_wp2
              all_goals exact bodyPost_ret (results_tmp2 Try.results24 _ _ _) rfl (ValPost.no HV.out HK.out)
            · have HIN := Lib.hid (HINS.out hov)
              have d3 : decide ((n : Int) * 784931 ≤ (sum : Int) + (d : Int)) = false := decide_eq_false (by omega)
              have hs20 : sum + d ≤ 20000000000 := by omega
              clear hov HINS HVN
              go_wp2_with fail
              refine PR.out.mono ?_
              rintro e w3 ⟨hk3, rfl, hrd3⟩
              have row3 := HR.out.2.1.keep hk3 (fun g hg e => by have := HR.out.2.2.1 g hg; omega)
              obtain ⟨g4, c4, w4, run4, row4, ho4, hk4⟩ := rowV_append1 (P := Try.prog) 47 47 i0 (.int .u64 0) Try.underlying47 HI.out.1 HI.out.2.1 HI.out.2.2.1 HI.out.2.2.2 rfl row3 (.int .u64 ((sum + d : Nat) : Int)) rfl (by unfold maxLen; omega) (by omega)
              rw [u64s_snoc] at row4
              have hr3 : r < w3.heap.size := by
                have := hk3.size
                have := RdAt.lt HR.out.2.2.2.1
                omega
              have hg4 : r < g4 := by
                rcases ho4 with h | h
                · exact HR.out.2.2.1 g4 h
                · omega
              have K3 := HRR.out.2.trans (hk3.below (by rw [← hgw]; exact HRR.out.2.size) (fun k hk => by rw [hk]; exact HRR.out.1))
              have K4 := K3.trans (hk4.below (by rw [← hgw]; exact K3.size) (fun k hk => by have := HR.out.2.2.1 k hk; have := HRR.out.1; omega))
              have H4 := Lib.hid (And.intro row4 (And.intro hg4 (And.intro (RdAt.up hrd3 hk4 (fun k hk e => by have := HR.out.2.2.1 k e; omega)) K4)))
              obtain ⟨p8, c8, rfl, _⟩ := HR.out.2.1.form
              have hcast : ((sum + d : Nat) : Int) = (sum : Int) + (d : Int) := by omega
              rw [hcast] at run4
              clear hk3 hrd3 row3 row4 ho4 hk4 hr3 hg4 K3 K4 hcast
              go_wp2_with (at_builtin; refine wpl_append rfl _ _ 47 rfl rfl rfl run4 ?_)
              go_roundg (n - (k + 1))
              case measure => rw [HGK.out]; omega
              case rel => exact ⟨k + 1, sum + d, l ++ [sum + d], some g4, s', hlt, hs20, congrArg (Value.int .u64) (by omega), rfl, rfl, by rw [List.length_append, HR.out.1]; rfl, H4.out.1, fun g hg => (by cases hg; exact H4.out.2.1), H4.out.2.2.1, H4.out.2.2.2, HIN.out⟩
        · obtain rfl : k = n := by omega
          have hend : valLoop k k 0 S0 = some (l, s) := by
            have := HR.out.2.2.2.2.2
            unfold ValInv at this
            rw [Nat.sub_self] at this
            simpa [valLoop] using this
          rw [HNN.out, HS0.out] at hend
          have hb2 : ¬ 20000 < decN bs := by rw [← HNN.out]; exact HBIG.out
          have PL := Lib.hid (vleft r s wr HR.out.2.2.2.1)
          have PL2 := Lib.hid (vleft r s wr.drew (RdAt.below HR.out.2.2.2.1 (Below.refl _ _).drew))
          have PB := Lib.hid (fun h => vbits r s s.length wr.drew (RdAt.below HR.out.2.2.2.1 (Below.refl _ _).drew) h (Nat.le_refl _))
          have PB2 := Lib.hid (fun h => vbits r s s.length wr.drew.drew (RdAt.below HR.out.2.2.2.1 ((Below.refl _ _).drew.drew)) h (Nat.le_refl _))
          have hslen := RdAt.len HR.out.2.2.2.1
          obtain ⟨L, hL⟩ : ∃ L, L = s.length := ⟨_, rfl⟩
          rw [← hL] at PL PB PL2 PB2 hslen
          have HLL := Lib.hid hL
          have HEND := Lib.hid (And.intro hend hb2)
          have HRR := Lib.hid (And.intro hrr' HR.out.2.2.2.2.1)
          have HROW := Lib.hid (And.intro HR.out.1 (And.intro HR.out.2.1 HR.out.2.2.1))
          clear hend hb2 hL
          by_cases h7 : 7 < L
          · have HV := Lib.hid (vs_left (bs := bs) HE.out HEND.out.2 HEND.out.1 (by rw [← HLL.out]; exact h7))
            have d7 : decide ((7 : Int) < (L : Int)) = true := decide_eq_true (by omega)
            have d8 : decide ((8 : Int) ≤ (L : Int)) = true := decide_eq_true (by omega)
            clear h7
            go_wp2_with fail
            refine PL.out.mono ?_
            rintro e w3 ⟨rfl, rfl⟩
            subst hgw
            go_wp2
            exact bodyPost_ret (results_tmp2 Try.results24 _ _ _) rfl (ValPost.no HV.out HRR.out.2.drew)
          · have d7 : decide ((7 : Int) < (L : Int)) = false := decide_eq_false (by omega)
            have d8 : decide ((8 : Int) ≤ (L : Int)) = false := decide_eq_false (by omega)
            have PBB := Lib.hid (PB.out (by omega))
            have PBB2 := Lib.hid (PB2.out (by omega))
            have hvt : valOf (s.take L) = valOf s := valOf_take s L (by rw [HLL.out]; exact Nat.le_refl _)
            rw [hvt] at PBB PBB2
            obtain ⟨V, hV⟩ : ∃ V, V = valOf s := ⟨_, rfl⟩
            rw [← hV] at PBB PBB2
            have HVV := Lib.hid hV
            have H7 := Lib.hid h7
            clear hvt hV h7 PB PB2
            by_cases hv0 : V = 0
            · have HV := Lib.hid (vs_some (bs := bs) HE.out HEND.out.2 HEND.out.1 (by rw [← HLL.out]; exact H7.out) (by rw [← HVV.out]; exact hv0))
              subst hv0
              go_wp2_with fail
              refine PL.out.mono ?_
              rintro e w3 ⟨rfl, rfl⟩
              go_wp2_with fail
              refine PBB.out.mono ?_
              rintro e w4 ⟨rfl, _, hk4⟩
              have row4 := HROW.out.2.1.keep (kd1 (Keep.refl (fun k => k = r) wr) hk4) (fun g hg e => by have := HROW.out.2.2 g hg; omega)
              have K4 := HRR.out.2.trans ((kd1 (Keep.refl (fun k => k = r) wr) hk4).below (by rw [← hgw]; exact HRR.out.2.size) (fun k hk => by rw [hk]; exact HRR.out.1))
              have H4 := Lib.hid (And.intro row4 K4)
              clear row4 K4 hk4
              subst hgw
              go_wp2
              have HL := HROW.out.1
              exact bodyPost_ret (results_tmp2 Try.results24 _ _ _) rfl (ValPost.yes HV.out (by rw [HL]; exact H4.out.1) (fun g hg => by have := HROW.out.2.2 g hg; have := HRR.out.1; omega) H4.out.2)
            · have HV := Lib.hid (vs_bits (bs := bs) HE.out HEND.out.2 HEND.out.1 (by rw [← HLL.out]; exact H7.out) (by rw [← HVV.out]; exact hv0))
              have d9 : decide ((0 : Int) < (V : Int)) = true := decide_eq_true (by omega)
              have d10 : ((V : Int) != 0) = true := by rw [bne_iff_ne]; omega
              have d11 : decide (0 < V) = true := decide_eq_true (by omega)
              have d12 : 0 < V := by omega
              clear hv0
              go_wp2_with fail
              refine PL.out.mono ?_
              rintro e w3 ⟨rfl, rfl⟩
              go_wp2_with fail
              refine PBB.out.mono ?_
              rintro e w4 ⟨rfl, _, hk4⟩
              have K4 := HRR.out.2.trans ((kd1 (Keep.refl (fun k => k = r) wr) hk4).below (by rw [← hgw]; exact HRR.out.2.size) (fun k hk => by rw [hk]; exact HRR.out.1))
              have H4 := Lib.hid K4
              clear K4 hk4
              subst hgw
              go_wp2
              all_goals exact bodyPost_ret (results_tmp2 Try.results24 _ _ _) rfl (ValPost.no HV.out H4.out)
  · have HV := Lib.hid (vs_dec hE)
    have HB := Lib.hid hb
    have e1 : (decE bs != 0) = true := by rw [bne_iff_ne]; exact hE
    clear hb hE h0 h1
    go_wp2
    exact bodyPost_ret (results_tmp2 Try.results24 _ _ _) rfl (ValPost.no HV.out HB.out)
set_option maxHeartbeats 6400000 in
theorem rvalues (bs : List Int) (q : Option Addr) (c : Nat) (w : World) (hy : Lib.BytesIn w q bs.length bs) (hr : ∀ y ∈ bs, 0 ≤ y ∧ y ≤ 255) (hc : bs.length ≤ c) (hcm : c ≤ 9223372036854775807) (hl47 : bs.length ≤ 140737488355328) :
    Calls Try.prog 27 #[.slice q bs.length c] w (ValPost bs w) := by
  obtain ⟨i0, hi, hz0, hz1, hz2⟩ := info_parts u64inf
  have HI := Lib.hid (And.intro hi (And.intro hz0 (And.intro hz1 hz2)))
  have PD := Lib.hid (rdecode bs q c w hy hr hc hcm hl47)
  have HRD := Lib.hid (show (∀ y ∈ decR bs, 0 ≤ y ∧ y < 256) ∧ (decR bs).length ≤ 140737488355328 from by
    cases bs with
    | nil => exact ⟨fun y hy => by (cases hy), by decide⟩
    | cons b r =>
      refine ⟨fun y hy => ?_, ?_⟩
      · have := hr y (List.mem_cons_of_mem _ (List.mem_of_mem_drop hy)); omega
      · show (r.drop (decW b)).length ≤ _
        rw [List.length_drop]; rw [List.length_cons] at hl47; omega)
  clear hy hr hc hi hz0 hz1 hz2
  go_enter Try.func27, Try.ntmps27
  go_wp2_with fail
  refine PD.out.mono ?_
  rintro e w1 ⟨x, v, rfl, hb, h0, h1⟩
  by_cases hE : decE bs = 0
  · obtain ⟨hx, o, hrow, ho⟩ := h0 hE
    rw [hE]
    subst hx
    clear h0 h1
    have HE := Lib.hid hE
    clear hE
    obtain ⟨n, hn⟩ : ∃ n, n = decN bs := ⟨_, rfl⟩
    rw [← hn]
    have HNN := Lib.hid hn
    clear hn
    by_cases hbig : 20000 < n
    · have HV := Lib.hid (vs_many (bs := bs) (by rw [← HNN.out]; exact hbig))
      have d1 : decide ((20000 : Int) < (n : Int)) = true := decide_eq_true (by omega)
      have HB := Lib.hid hb
      clear hb hbig hrow
      go_wp2
      exact bodyPost_ret (results_tmp2 Try.results27 _ _ _) rfl (ValPost.no HV.out HB.out)
    · have d1 : decide ((20000 : Int) < (n : Int)) = false := decide_eq_false (by omega)
      have hn2 : n ≤ 20000 := by omega
      have HBIG := Lib.hid hbig
      obtain ⟨p2, c2, rfl, hby, hle2, hcm2, hq2⟩ := hrow.form
      have PO := Lib.hid (wopen p2 c2 (decR bs) w1 hby HRD.out.1 HRD.out.2)
      have HB := Lib.hid hb
      clear hb hbig hrow hby hle2 hq2 ho
      go_wp2_with fail
      refine PO.out.mono ?_
      rintro e w2 ⟨r, rfl, hrd, hrr, hb2⟩
      have HB2 := Lib.hid (And.intro hrd (And.intro hrr (HB.out.trans (hb2.mono HB.out.size))))
      clear hrd hrr hb2
      generalize hgw : w.heap.size = G at *
      obtain ⟨S0, hS0⟩ : ∃ S0, S0 = unpack (decR bs) := ⟨_, rfl⟩
      rw [← hS0] at HB2
      have HS0 := Lib.hid hS0
      clear hS0
      have hrr' : G ≤ r := by have := HB2.out.2.1; have := HB.out.size; omega
      go_wp2
      go_loopg [8, 9, 29] n (fun gh v su i wx => ∃ (k sum : Nat) (l : List Nat) (o : Option Nat) (s : List Bool), k ≤ n ∧ sum ≤ 20000000000 ∧ su = .int .u64 (sum : Int) ∧ i = .int .u64 (k : Int) ∧ gh = n - k ∧ Hid (l.length = k ∧ RowV wx 52 1 v k (u64s l) o ∧ (∀ g, o = some g → r < g) ∧ RfAt wx r s ∧ Below G w wx ∧ ValInv n S0 l (n - k) sum s))
      case atStart => exact ⟨0, 0, [], none, S0, Nat.zero_le _, by decide, rfl, rfl, rfl, rfl, RowV.nil _ _ _, fun g hg => (by cases hg), HB2.out.1, by rw [← hgw]; rw [← hgw] at HB2; exact HB2.out.2.2, ValInv.start n S0⟩
      case round =>
        obtain ⟨k, sum, l, o, s, hk, hsum, rfl, rfl, hg, HR⟩ := hrel
        have HGK := Lib.hid hg
        clear hg
        by_cases hlt : k < n
        · have m2 : IntKind.u64.wrap (2 * (n : Int)) = 2 * (n : Int) := IntWalk.u64_in _ (by omega)
          have PR := wriceA r s (2 * n) wr HR.out.2.2.2.1 (by omega)
          rw [show ((2 * n : Nat) : Int) = 2 * (n : Int) from by omega] at PR
          have PR := Lib.hid PR
          have hmk : n - k = (n - (k + 1)) + 1 := by omega
          have HINV := HR.out.2.2.2.2.2
          rw [hmk] at HINV
          cases hro : riceO 19 (2 * n) s with
          | none =>
            have HV := Lib.hid (vs_loop (bs := bs) HE.out (by rw [← HNN.out]; exact HBIG.out) (by
              have := HINV
              unfold ValInv at this
              rw [valLoop_none hro] at this
              rw [← HNN.out, ← HS0.out]; exact this))
            rw [hro] at PR
            have HRR := Lib.hid (And.intro hrr' HR.out.2.2.2.2.1)
            clear hro HINV
            go_wp2_with fail
            refine PR.out.mono ?_
            rintro e w3 ⟨hk3, y, hy, rfl⟩
            have HK := Lib.hid (HRR.out.2.trans (hk3.below (by rw [← hgw]; exact HRR.out.2.size) (fun k hk => by rw [hk]; exact HRR.out.1)))
            have hy0 : (y != 0) = true := by rw [bne_iff_ne]; omega
            have hs2 : IntKind.u64.wrap ((sum : Int)) = (sum : Int) := IntWalk.u64_in _ (by omega)
            clear hy hk3
            subst hgw
            go_wp2
            all_goals exact bodyPost_ret (results_tmp2 Try.results27 _ _ _) rfl (ValPost.no HV.out HK.out)
          | some ds =>
            obtain ⟨d, s'⟩ := ds
            have hd := rice_small hro
            have hd2 : d ≤ 30000000000 := by
              have : (2 * n + 1) * 2 ^ 19 ≤ 40001 * 2 ^ 19 := Nat.mul_le_mul_right _ (by omega)
              omega
            have hsw : IntKind.u64.wrap ((sum : Int) + (d : Int)) = (sum : Int) + (d : Int) := IntWalk.u64_in _ (by omega)
            have hnw : IntKind.u64.wrap ((n : Int) * 784931) = (n : Int) * 784931 := IntWalk.u64_in _ (by omega)
            have HINS := Lib.hid (fun h => HINV.step hro h)
            have HVN := Lib.hid (fun h => vs_loop (bs := bs) HE.out (by rw [← HNN.out]; exact HBIG.out) (by
              have := HINV
              unfold ValInv at this
              rw [valLoop_over hro h] at this
              rw [← HNN.out, ← HS0.out]; exact this))
            rw [hro] at PR
            have HRR := Lib.hid (And.intro hrr' HR.out.2.2.2.2.1)
            clear hro HINV hd
            by_cases hov : n * 784931 ≤ sum + d
            · have HV := Lib.hid (HVN.out hov)
              have d3 : decide ((n : Int) * 784931 ≤ (sum : Int) + (d : Int)) = true := decide_eq_true (by omega)
              clear hov HINS HVN
              go_wp2_with fail
              refine PR.out.mono ?_
              rintro e w3 ⟨hk3, rfl, _⟩
              have HK := Lib.hid (HRR.out.2.trans (hk3.below (by rw [← hgw]; exact HRR.out.2.size) (fun k hk => by rw [hk]; exact HRR.out.1)))
              clear hk3
              subst hgw
              go_wp2
              all_goals exact bodyPost_ret (results_tmp2 Try.results27 _ _ _) rfl (ValPost.no HV.out HK.out)
            · have HIN := Lib.hid (HINS.out hov)
              have d3 : decide ((n : Int) * 784931 ≤ (sum : Int) + (d : Int)) = false := decide_eq_false (by omega)
              have hs20 : sum + d ≤ 20000000000 := by omega
              clear hov HINS HVN
              go_wp2_with fail
              refine PR.out.mono ?_
              rintro e w3 ⟨hk3, rfl, hrd3⟩
              have row3 := HR.out.2.1.keep hk3 (fun g hg e => by have := HR.out.2.2.1 g hg; omega)
              obtain ⟨g4, c4, w4, run4, row4, ho4, hk4⟩ := rowV_append1 (P := Try.prog) 47 47 i0 (.int .u64 0) Try.underlying47 HI.out.1 HI.out.2.1 HI.out.2.2.1 HI.out.2.2.2 rfl row3 (.int .u64 ((sum + d : Nat) : Int)) rfl (by unfold maxLen; omega) (by omega)
              rw [u64s_snoc] at row4
              have hr3 : r < w3.heap.size := by
                have := hk3.size
                have := RfAt.lt HR.out.2.2.2.1
                omega
              have hg4 : r < g4 := by
                rcases ho4 with h | h
                · exact HR.out.2.2.1 g4 h
                · omega
              have K3 := HRR.out.2.trans (hk3.below (by rw [← hgw]; exact HRR.out.2.size) (fun k hk => by rw [hk]; exact HRR.out.1))
              have K4 := K3.trans (hk4.below (by rw [← hgw]; exact K3.size) (fun k hk => by have := HR.out.2.2.1 k hk; have := HRR.out.1; omega))
              have H4 := Lib.hid (And.intro row4 (And.intro hg4 (And.intro (RfAt.up hrd3 hk4 (fun k hk e => by have := HR.out.2.2.1 k e; omega)) K4)))
              obtain ⟨p8, c8, rfl, _⟩ := HR.out.2.1.form
              have hcast : ((sum + d : Nat) : Int) = (sum : Int) + (d : Int) := by omega
              rw [hcast] at run4
              clear hk3 hrd3 row3 row4 ho4 hk4 hr3 hg4 K3 K4 hcast
              go_wp2_with (at_builtin; refine wpl_append rfl _ _ 47 rfl rfl rfl run4 ?_)
              go_roundg (n - (k + 1))
              case measure => rw [HGK.out]; omega
              case rel => exact ⟨k + 1, sum + d, l ++ [sum + d], some g4, s', hlt, hs20, congrArg (Value.int .u64) (by omega), rfl, rfl, by rw [List.length_append, HR.out.1]; rfl, H4.out.1, fun g hg => (by cases hg; exact H4.out.2.1), H4.out.2.2.1, H4.out.2.2.2, HIN.out⟩
        · obtain rfl : k = n := by omega
          have hend : valLoop k k 0 S0 = some (l, s) := by
            have := HR.out.2.2.2.2.2
            unfold ValInv at this
            rw [Nat.sub_self] at this
            simpa [valLoop] using this
          rw [HNN.out, HS0.out] at hend
          have hb2 : ¬ 20000 < decN bs := by rw [← HNN.out]; exact HBIG.out
          have PL := Lib.hid (wleft r s wr HR.out.2.2.2.1)
          have PL2 := Lib.hid (wleft r s wr.drew (RfAt.below HR.out.2.2.2.1 (Below.refl _ _).drew))
          have PB := Lib.hid (fun h => wbits r s s.length wr.drew (RfAt.below HR.out.2.2.2.1 (Below.refl _ _).drew) h (Nat.le_refl _))
          have PB2 := Lib.hid (fun h => wbits r s s.length wr.drew.drew (RfAt.below HR.out.2.2.2.1 ((Below.refl _ _).drew.drew)) h (Nat.le_refl _))
          have hslen := RfAt.len HR.out.2.2.2.1
          obtain ⟨L, hL⟩ : ∃ L, L = s.length := ⟨_, rfl⟩
          rw [← hL] at PL PB PL2 PB2 hslen
          have HLL := Lib.hid hL
          have HEND := Lib.hid (And.intro hend hb2)
          have HRR := Lib.hid (And.intro hrr' HR.out.2.2.2.2.1)
          have HROW := Lib.hid (And.intro HR.out.1 (And.intro HR.out.2.1 HR.out.2.2.1))
          clear hend hb2 hL
          by_cases h7 : 7 < L
          · have HV := Lib.hid (vs_left (bs := bs) HE.out HEND.out.2 HEND.out.1 (by rw [← HLL.out]; exact h7))
            have d7 : decide ((7 : Int) < (L : Int)) = true := decide_eq_true (by omega)
            have d8 : decide ((8 : Int) ≤ (L : Int)) = true := decide_eq_true (by omega)
            clear h7
            go_wp2_with fail
            refine PL.out.mono ?_
            rintro e w3 ⟨rfl, rfl⟩
            subst hgw
            go_wp2
            exact bodyPost_ret (results_tmp2 Try.results27 _ _ _) rfl (ValPost.no HV.out HRR.out.2.drew)
          · have d7 : decide ((7 : Int) < (L : Int)) = false := decide_eq_false (by omega)
            have d8 : decide ((8 : Int) ≤ (L : Int)) = false := decide_eq_false (by omega)
            have PBB := Lib.hid (PB.out (by omega))
            have PBB2 := Lib.hid (PB2.out (by omega))
            have hvt : valOf (s.take L) = valOf s := valOf_take s L (by rw [HLL.out]; exact Nat.le_refl _)
            rw [hvt] at PBB PBB2
            obtain ⟨V, hV⟩ : ∃ V, V = valOf s := ⟨_, rfl⟩
            rw [← hV] at PBB PBB2
            have HVV := Lib.hid hV
            have H7 := Lib.hid h7
            clear hvt hV h7 PB PB2
            by_cases hv0 : V = 0
            · have HV := Lib.hid (vs_some (bs := bs) HE.out HEND.out.2 HEND.out.1 (by rw [← HLL.out]; exact H7.out) (by rw [← HVV.out]; exact hv0))
              subst hv0
              go_wp2_with fail
              refine PL.out.mono ?_
              rintro e w3 ⟨rfl, rfl⟩
              (go_wp2_with fail; refine PL2.out.mono ?_; rintro e w3 ⟨rfl, rfl⟩; go_wp2_with fail)
              refine PBB2.out.mono ?_
              rintro e w4 ⟨rfl, _, hk4⟩
              have row4 := HROW.out.2.1.keep (kd2 (Keep.refl (fun k => k = r) wr) hk4) (fun g hg e => by have := HROW.out.2.2 g hg; omega)
              have K4 := HRR.out.2.trans ((kd2 (Keep.refl (fun k => k = r) wr) hk4).below (by rw [← hgw]; exact HRR.out.2.size) (fun k hk => by rw [hk]; exact HRR.out.1))
              have H4 := Lib.hid (And.intro row4 K4)
              clear row4 K4 hk4
              subst hgw
              go_wp2
              have HL := HROW.out.1
              exact bodyPost_ret (results_tmp2 Try.results27 _ _ _) rfl (ValPost.yes HV.out (by rw [HL]; exact H4.out.1) (fun g hg => by have := HROW.out.2.2 g hg; have := HRR.out.1; omega) H4.out.2)
            · have HV := Lib.hid (vs_bits (bs := bs) HE.out HEND.out.2 HEND.out.1 (by rw [← HLL.out]; exact H7.out) (by rw [← HVV.out]; exact hv0))
              have d9 : decide ((0 : Int) < (V : Int)) = true := decide_eq_true (by omega)
              have d10 : ((V : Int) != 0) = true := by rw [bne_iff_ne]; omega
              have d11 : decide (0 < V) = true := decide_eq_true (by omega)
              have d12 : 0 < V := by omega
              clear hv0
              go_wp2_with fail
              refine PL.out.mono ?_
              rintro e w3 ⟨rfl, rfl⟩
              (go_wp2_with fail; refine PL2.out.mono ?_; rintro e w3 ⟨rfl, rfl⟩; go_wp2_with fail)
              refine PBB2.out.mono ?_
              rintro e w4 ⟨rfl, _, hk4⟩
              have K4 := HRR.out.2.trans ((kd2 (Keep.refl (fun k => k = r) wr) hk4).below (by rw [← hgw]; exact HRR.out.2.size) (fun k hk => by rw [hk]; exact HRR.out.1))
              have H4 := Lib.hid K4
              clear K4 hk4
              subst hgw
              go_wp2
              all_goals exact bodyPost_ret (results_tmp2 Try.results27 _ _ _) rfl (ValPost.no HV.out H4.out)
  · have HV := Lib.hid (vs_dec hE)
    have HB := Lib.hid hb
    have e1 : (decE bs != 0) = true := by rw [bne_iff_ne]; exact hE
    clear hb hE h0 h1
    go_wp2
    exact bodyPost_ret (results_tmp2 Try.results27 _ _ _) rfl (ValPost.no HV.out HB.out)
end Go.Proofs.Ytppcccocnmhbgaa
