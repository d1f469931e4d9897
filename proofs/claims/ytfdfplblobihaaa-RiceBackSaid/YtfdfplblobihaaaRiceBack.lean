/- The law RiceBack. -/
import Derived.Test.YtfdfplblobihaaaReadR
import Derived.Test.YtfdfplblobihaaaRiceBits
namespace Go.Proofs.Ytfdfplblobihaaa
open Go Go.ChangeShapes Go.WideShapes Go.ChangeAt Go.RowKit
set_option linter.unusedSimpArgs false
set_option linter.unusedVariables false

/-- numbers in memory -/
def U64In (w : World) (a0 : Option Addr) (len : Nat) (N : Nat → Nat) : Prop :=
  ∀ r, r < len → ∃ b o, a0 = some ⟨b, o, none⟩ ∧ w.cell? ⟨b, o + r, none⟩ = some (.int .u64 (N r : Int)) ∧ N r < 18446744073709551616 ∧ b < w.heap.size
theorem U64In.below {w w' : World} {a0 : Option Addr} {len : Nat} {N : Nat → Nat} (h : U64In w a0 len N) (hb : Below w.heap.size w w') : U64In w' a0 len N := fun r hr => by
  obtain ⟨b, o, h0, h1, h2, h3⟩ := h r hr
  exact ⟨b, o, h0, (hb.cell (p := ⟨b, _, none⟩) h3).trans h1, h2, Nat.lt_of_lt_of_le h3 hb.size⟩
theorem open_u64s {H : Type} {enc : TypeId × Value → H} {w : World} {b0 : Nat} {r : Reach} {v : Value} {d : DataW H} {p : List MemPlace}
    (hv : Value.okWide Try.prog w r b0 56 v) (h : DataW.Trod enc Try.prog w 0 (fun _ => true) true 56 v d p) :
    ∃ a0 len cap N, v = .slice a0 len cap ∧ len ≤ cap ∧ cap ≤ 9223372036854775807 ∧ U64In w a0 len N := by
  obtain ⟨a0, len, cap, rfl⟩ := okWide_slice Try.underlying56 hv
  obtain ⟨fuel, hf⟩ := h
  rcases open_ints Try.underlying56 Try.underlying29 (by kernel_rfl) hf with ⟨hcs, _⟩ | ⟨a, len', cap', zs, hcs, _, hl, hm, hz, hy, hcell, hwz⟩
  · simp [Value.cells] at hcs
    obtain ⟨rfl, rfl, rfl⟩ := hcs
    exact ⟨_, _, _, fun _ => 0, rfl, by decide, by decide, fun r hr => by omega⟩
  · simp [Value.cells] at hcs
    obtain ⟨rfl, rfl, rfl⟩ := hcs
    simp only [if_true] at hz
    obtain ⟨b, o, s⟩ := a
    refine ⟨some ⟨b, o, s⟩, len, cap, fun i => (zs.getD i 0).toNat, rfl, by omega, by unfold maxLen at hm; omega, fun i hlt => ?_⟩
    have c := hcell i (by omega)
    obtain rfl : s = none := by simpa [Addr.add] using World.cell?_spot (hcell 0 (by omega))
    rw [Addr.add_lit] at c
    have hw := hwz (zs.getD i 0) (by rw [List.getD_eq_getElem?_getD, List.getElem?_eq_getElem (by omega)]; exact List.getElem_mem _)
    have hb : 0 ≤ zs.getD i 0 ∧ zs.getD i 0 ≤ 18446744073709551615 := by first | exact bounds_u64 hw | (have := hw; simp [Lit.wf, IntKind.min, IntKind.max] at this; omega)
    refine ⟨b, o, rfl, ?_, ?_, cell_lt c⟩
    · rw [c, Int.toNat_of_nonneg hb.1]
    · show (zs.getD i 0).toNat < _
      omega
def cnt33 (x : Int) : Nat := (x % 18446744073709551616 % 33).toNat
theorem cnt33_eq (x : Int) : wrap64 ((IntKind.u64.wrap x).tmod 33) = (cnt33 x : Int) := by
  have hx : IntKind.u64.wrap x = x % 18446744073709551616 := by rfl
  have h0 : 0 ≤ x % 18446744073709551616 := Int.emod_nonneg _ (by decide)
  rw [hx, Int.tmod_eq_emod_of_nonneg h0]
  unfold wrap64 cnt33; omega
theorem cnt33_le (x : Int) : cnt33 x ≤ 32 := by unfold cnt33; omega
/-- the numbers of 'want' -/
def WV (M : Nat → Nat) (n : Nat) : List Value := (List.range n).map fun i => Value.int .u64 (M i : Int)
theorem WV_snoc (M : Nat → Nat) (n : Nat) : WV M (n + 1) = WV M n ++ [.int .u64 (M n : Int)] := by simp [WV, List.range_succ]
theorem WV_get (M : Nat → Nat) (n i : Nat) (h : i < n) : (WV M n)[i]? = some (.int .u64 (M i : Int)) := by simp [WV, h]
theorem u64info : (Try.prog.info? 29).map (fun i => (i.zero, i.size, i.bytes)) = some (some (.int .u64 0), 1, 8) := by kernel_rfl
/-- a writer and the numbers that were written -/
def WW (W w : World) (p : Nat) (l : List Bool) (v : Value) (M : Nat → Nat) (n : Nat) : Prop :=
  ∃ o ow, WAt w p l o ∧ RowV w 29 1 v n (WV M n) ow ∧ (∀ k, foot p o k → W.heap.size ≤ k ∧ ow ≠ some k) ∧ (∀ g, ow = some g → W.heap.size ≤ g) ∧ Below W.heap.size W w
section
variable {W w : World} {p : Nat} {l : List Bool} {v : Value} {M : Nat → Nat} {n : Nat}
theorem WW.at (h : WW W w p l v M n) : ∃ o, WAt w p l o ∧ ∀ w' l', Grew w w' p l' o → WW W w' p l' v M n := by
  obtain ⟨o, ow, h1, h2, h3, h4, h5⟩ := h
  have lt := h2.lt
  refine ⟨o, h1, fun w' l' g => ?_⟩
  obtain ⟨o', g1, g2, g3⟩ := g
  refine ⟨o', ow, g1, h2.keep g3 (fun g hg e => (h3 g e).2 hg), fun k e => ?_, h4, h5.trans (g3.below h5.size (fun k e => (h3 k e).1))⟩
  rcases e with e | e
  · exact h3 k (.inl e)
  · rcases g2 k e with e | e
    · exact h3 k (.inr e)
    · exact ⟨Nat.le_trans h5.size e, fun h => by have := lt k h; omega⟩
theorem WW.own (h : WW W w p l v M n) : Own1 W w p l := by
  obtain ⟨o, ow, h1, h2, h3, h4, h5⟩ := h
  exact ⟨o, h1, fun k e => (h3 k e).1, h5⟩
theorem ww_rice (m C : Nat) (h : WW W w p l v M n) (hl : l.length ≤ 1099511000000) (hm : m < 18446744073709551616) (hC : C ≤ 32) (hq : m / 2 ^ C ≤ 65535) : Calls Try.prog 12 #[.pointer (some ⟨p, 0, none⟩), .int .u64 (m : Int), .int .i64 (C : Int)] w fun e w' => e = .returned (.int .i64 0) ∧ WW W w' p (l ++ (List.replicate (m / 2 ^ C) true ++ [false] ++ bitsOf m C)) v M n := by
  obtain ⟨o, h1, h2⟩ := h.at
  have hc : ¬ ((C : Int) < 0 ∨ 32 < (C : Int) ∨ 65535 < m / 2 ^ (C : Int).toNat) := by rw [Int.toNat_natCast]; omega
  refine (crice p l m C o w h1 (by omega) hm).mono fun e w' ⟨e1, e2⟩ => ⟨by rw [e1, show riceE m (C : Int) = 0 from if_neg hc], h2 _ _ ?_⟩
  rw [show l ++ (List.replicate (m / 2 ^ C) true ++ [false] ++ bitsOf m C) = riceL l m C from by unfold riceL; rw [if_neg hc, Int.toNat_natCast]; simp]
  exact e2
theorem WW.form (h : WW W w p l v M n) : ∃ q c, v = .slice q n c := by
  obtain ⟨o, ow, h1, h2, h3, h4, h5⟩ := h
  obtain ⟨q, c, e, _⟩ := h2.form
  exact ⟨q, c, e⟩
theorem ww_append (h : WW W w p l v M n) (hn : n ≤ 1000) :
    ∃ g' cap' w', (Builtin.append_ #[56, 56] 56 #[v, .slice (some ⟨w.heap.size, 0, none⟩) 1 1]).run Try.prog (w.alloc (.cells #[.int .u64 (M n : Int)] 29)) = .ok (.slice (some ⟨g', 0, none⟩) (n + 1) cap') w' ∧ WW W w' p l (.slice (some ⟨g', 0, none⟩) (n + 1) cap') M (n + 1) := by
  obtain ⟨o, ow, h1, h2, h3, h4, h5⟩ := h
  obtain ⟨i0, hi, hz0, hz1, hz2⟩ := info_parts u64info
  obtain ⟨g, cap, w1, hrun, hrow, hg, hk⟩ := rowV_append1 (P := Try.prog) 56 56 i0 (.int .u64 0) Try.underlying56 hi hz0 hz1 hz2 rfl h2 (.int .u64 (M n : Int)) rfl (by unfold maxLen; omega) (by omega)
  have lt := h1.lt
  refine ⟨g, cap, w1, hrun, o, some g, h1.keep hk (fun k e h => (h3 k e).2 h), by rw [WV_snoc]; exact hrow, fun k e => ⟨(h3 k e).1, fun h => ?_⟩, fun g' e => ?_, h5.trans (hk.below h5.size (fun k e => h4 k e))⟩
  · cases h
    rcases hg with hg | hg
    · exact (h3 g e).2 hg
    · have := lt g e; omega
  · cases e
    rcases hg with hg | hg
    · exact h4 g hg
    · exact Nat.le_trans h5.size hg
/-- .. and a reader -/
def RWW (W w : World) (p r : Nat) (l s : List Bool) (v : Value) (M : Nat → Nat) (n : Nat) : Prop :=
  RdAt w r s ∧ (∃ o ow, WAt w p l o ∧ RowV w 29 1 v n (WV M n) ow ∧ (∀ k, foot p o k → W.heap.size ≤ k ∧ k ≠ r) ∧ (∀ g, ow = some g → g ≠ r)) ∧ Below W.heap.size W w ∧ W.heap.size ≤ r
theorem WW.more {w' : World} (h : WW W w p l v M n) (hb : Below w.heap.size w w') : WW W w' p l v M n := by
  obtain ⟨o, ow, h1, h2, h3, h4, h5⟩ := h
  exact ⟨o, ow, h1.keep (X := fun _ => False) (Keep.of_below hb) (fun _ _ h => h), h2.keep (X := fun _ => False) (Keep.of_below hb) (fun _ _ h => h), h3, h4, h5.trans (hb.mono h5.size)⟩
theorem RWW.start {w' : World} {r : Nat} {s : List Bool} (h : WW W w p l v M n) (hr : RdAt w' r s) (hr2 : w.heap.size ≤ r) (hb : Below w.heap.size w w') : RWW W w' p r l s v M n := by
  obtain ⟨o, ow, h1, h2, h3, h4, h5⟩ := h
  have lt1 := h1.lt
  have lt2 := h2.lt
  exact ⟨hr, ⟨o, ow, h1.keep (X := fun _ => False) (Keep.of_below hb) (fun _ _ h => h), h2.keep (X := fun _ => False) (Keep.of_below hb) (fun _ _ h => h), fun k e => ⟨(h3 k e).1, by have := lt1 k e; omega⟩, fun g e => by have := lt2 g e; omega⟩, h5.trans (hb.mono h5.size), Nat.le_trans h5.size hr2⟩
theorem RWW.more {w' : World} {r : Nat} {s : List Bool} (h : RWW W w p r l s v M n) (hb : Below w.heap.size w w') : RWW W w' p r l s v M n := by
  obtain ⟨h1, ⟨o, ow, h2, h3, h4, h5⟩, h6, h7⟩ := h
  exact ⟨h1.below hb, ⟨o, ow, h2.keep (X := fun _ => False) (Keep.of_below hb) (fun _ _ h => h), h3.keep (X := fun _ => False) (Keep.of_below hb) (fun _ _ h => h), h4, h5⟩, h6.trans (hb.mono h6.size), h7⟩
theorem RWW.read {w' : World} {r : Nat} {s s' : List Bool} (h : RWW W w p r l s v M n) (hr : RdAt w' r s') (hk : Keep (fun k => k = r) w w') : RWW W w' p r l s' v M n := by
  obtain ⟨h1, ⟨o, ow, h2, h3, h4, h5⟩, h6, h7⟩ := h
  exact ⟨hr, ⟨o, ow, h2.keep hk (fun k e => (h4 k e).2), h3.keep hk (fun g e => h5 g e), h4, h5⟩, h6.trans (hk.below h6.size (fun k e => by rw [e]; exact h7)), h7⟩
theorem RWW.own {r : Nat} {s : List Bool} (h : RWW W w p r l s v M n) : Own1 W w p l := by
  obtain ⟨h1, ⟨o, ow, h2, h3, h4, h5⟩, h6, h7⟩ := h
  exact ⟨o, h2, fun k e => (h4 k e).1, h6⟩
theorem RWW.cell {r : Nat} {s : List Bool} (h : RWW W w p r l s v M n) (i : Nat) (hi : i < n) : ∃ g cap, v = .slice (some ⟨g, 0, none⟩) n cap ∧ w.cell? ⟨g, i, none⟩ = some (.int .u64 (M i : Int)) := by
  obtain ⟨h1, ⟨o, ow, h2, h3, h4, h5⟩, h6, h7⟩ := h
  obtain ⟨g, cap, _, hv, _, _, _, hc, _⟩ := h3.mem (by omega)
  exact ⟨g, cap, hv, by rw [hc i (by omega), WV_get M n i hi]⟩
end
theorem valOf_zero (m : Nat) : valOf (List.replicate m false) = 0 := by
  have key : ∀ m, (List.replicate m false).foldl (fun n b => 2 * n + b.toNat) 0 = 0 := by
    intro m; induction m with
    | zero => rfl
    | succ m ih => rw [List.replicate_succ, List.foldl_cons]; exact ih
  exact key m
set_option maxRecDepth 100000 in
set_option maxHeartbeats 6400000 in
theorem back_walk (a0 : Option Addr) (len cap : Nat) (N : Nat → Nat) (rest : Int) (W : World) (hD : U64In W a0 len N) (hcap : len ≤ cap) (hlen : cap ≤ 9223372036854775807) :
    Calls Try.prog 6 #[.slice a0 len cap, .int .i64 rest] W fun e w' => e = .returned (.bool true) ∧ Below W.heap.size W w' := by
  have PN := Lib.hid (cnew W)
  obtain ⟨n, hn⟩ : ∃ n, n = min len 20 := ⟨_, rfl⟩
  have hn1 : min (len : Int) 20 = (n : Int) := by omega
  have hn2 : n ≤ 20 := by omega
  have hn3 : n ≤ len := by omega
  have hn4 : n ≤ cap := by omega
  have e0 := cnt33_eq rest
  have hR := cnt33_le rest
  generalize cnt33 rest = R at *
  obtain ⟨D, hDD⟩ : ∃ D : Nat, D = 60 * 2 ^ R := ⟨_, rfl⟩
  have hw : IntKind.u64.wrap (60 * 2 ^ R) = (D : Int) := by
    have h1 : 2 ^ R ≤ 2 ^ 32 := Nat.pow_le_pow_right (by decide) hR
    have e : (60 * 2 ^ R : Int) = ((60 * 2 ^ R : Nat) : Int) := by rw [Int.natCast_mul, Int.natCast_pow]; rfl
    rw [e, hDD, IntWalk.u64_in _ (by omega)]
  have hD0 : 0 < D := by rw [hDD]; exact Nat.mul_pos (by decide) (Nat.two_pow_pos R)
  have hD1 : ¬ (D : Int) = 0 := by omega
  have hD2 : D ≤ 257698037760 := by
    have h1 : 2 ^ R ≤ 2 ^ 32 := Nat.pow_le_pow_right (by decide) hR
    omega
  have HDD := Lib.hid hDD
  clear hDD
  obtain ⟨M, hM⟩ : ∃ M : Nat → Nat, M = fun j => N j % D := ⟨_, rfl⟩
  have hMD := Lib.hid (show ∀ j, M j < D ∧ M j / 2 ^ R ≤ 59 from fun j => by
    have h1 : M j < D := by rw [hM]; exact Nat.mod_lt _ hD0
    refine ⟨h1, ?_⟩
    have : M j / 2 ^ R < 60 := (Nat.div_lt_iff_lt_mul (Nat.two_pow_pos R)).2 (by rw [← HDD.out]; exact h1)
    omega)
  obtain ⟨B, hB⟩ : ∃ B : Nat → List Bool, B = fun j => List.replicate (M j / 2 ^ R) true ++ [false] ++ bitsOf (M j) R := ⟨_, rfl⟩
  have HBB := Lib.hid hB
  have HMM := Lib.hid hM
  have HD := Lib.hid hD
  clear hD hn hB hM
  go_enter Try.func6, Try.ntmps6
  go_upto_region 2 with fail
  rw [e0]
  clear e0
  go_wp2_with fail
  refine PN.out.mono ?_
  rintro e w1 ⟨p, rfl, t1, hp, hb⟩
  have I0 := Lib.hid (show WW W w1 p [] (.slice none 0 0) M 0 from ⟨none, none, t1, RowV.nil _ _ _, fun k e => ⟨(by rcases e with e | e; exact e ▸ hp; cases e), fun h => (by cases h)⟩, fun g e => (by cases e), hb⟩)
  clear t1 hp hb
  go_upto_region 5 with fail
  go_wp2
  go_loopg [6, 29] n (fun gh v i wx => ∃ (j : Nat) (l : List Bool) (v' : Value), j ≤ n ∧ i = .int .i64 j ∧ gh = n - j ∧ v = v' ∧ Hid (WW W wx p l v' M j ∧ l ++ catb B j (n - j) = catb B 0 n ∧ l.length ≤ j * 92))
  case atStart => exact ⟨0, [], _, by omega, rfl, rfl, rfl, I0.out, rfl, by simp⟩
  case round =>
    clear I0 PN
    obtain ⟨j, l, v, hj, rfl, hg, rfl, J⟩ := hrel
    have HG := Lib.hid hg
    clear hg
    have hlb : l.length ≤ 1099511000000 := by have := J.out.2.2; omega
    by_cases hlt : j < n
    · obtain ⟨b, o3, rfl, d1, hnn, d4⟩ := (HD.out.below (by obtain ⟨o, _, _, h⟩ := J.out.1.own; exact h)) j (by omega)
      have hBj : B j = List.replicate (M j / 2 ^ R) true ++ [false] ++ bitsOf (M j) R := by rw [HBB.out]
      obtain ⟨mj, hmj⟩ : ∃ mj, mj = M j := ⟨_, rfl⟩
      have hmod : ((N j : Nat) : Int) % (D : Int) = (mj : Int) := by rw [hmj, HMM.out]; exact (Int.natCast_emod _ _).symm
      have hm1 : mj < D := by rw [hmj]; exact (hMD.out j).1
      have hm2 : mj / 2 ^ R ≤ 59 := by rw [hmj]; exact (hMD.out j).2
      rw [← hmj] at hBj
      have HBJ := Lib.hid hBj
      have HMJ := Lib.hid hmj
      clear hBj hmj
      generalize N j = nn at *
      go_upto_region 9 with fail
      have PR := Lib.hid (ww_rice mj R J.out.1 hlb (by omega) hR (by omega))
      go_wp2_with fail
      refine PR.out.mono ?_
      rintro e w2 ⟨rfl, t2⟩
      obtain ⟨g3, cap3, w3, hrun, t3⟩ := ww_append t2 (by omega)
      rw [← HMJ.out] at hrun
      have T3 := Lib.hid t3
      clear t2 t3
      go_wp2_with (at_builtin; refine wpl_append rfl _ _ 56 rfl rfl rfl hrun ?_)
      go_roundg (n - (j + 1))
      case measure => rw [HG.out]; omega
      case rel =>
        refine ⟨j + 1, _, _, by omega, rfl, rfl, rfl, T3.out, ?_, ?_⟩
        · rw [← HBJ.out]; exact catb_snoc B l _ j n hlt J.out.2.1
        · have := J.out.2.2
          simp [bitsOf_length]; omega
    · obtain rfl : j = n := by omega
      have hL : l = catb B 0 j := by have := J.out.2.1; rw [Nat.sub_self, catb, List.append_nil] at this; exact this
      have HL := Lib.hid hL
      clear hL
      have PB := Lib.hid (by obtain ⟨o, h1, _⟩ := J.out.1.at; exact cbytes p l o wr h1 (by omega))
      go_wp2_with fail
      refine PB.out.mono ?_
      rintro e w2 ⟨q, c2, o2, rfl, r2, ho2, hb2⟩
      have T2 := Lib.hid (J.out.1.more hb2)
      have PO := Lib.hid (vopen q c2 o2 (pack l) w2 r2 (pack_range l) (by rw [pack_length]; have := J.out.2.2; unfold nby; omega))
      clear r2 ho2 hb2
      go_wp2_with fail
      refine PO.out.mono ?_
      rintro e w3 ⟨r, rfl, hr, hr2, hb⟩
      rw [unpack_pack] at hr
      obtain ⟨pd, hpd⟩ : ∃ pd : Nat, pd = 8 * nby l.length - l.length := ⟨_, rfl⟩
      have hpl : pd < 8 := by rw [hpd]; exact pad_lt l
      rw [← hpd] at hr
      have S0 := Lib.hid (RWW.start T2.out hr hr2 hb)
      clear hr hr2 hb hpd T2 PO PB
      obtain ⟨qv, cv, rfl⟩ := J.out.1.form
      go_wp2
      go_loopg [52] j (fun gh i wx => ∃ (m : Nat) (s : List Bool), m ≤ j ∧ i = .int .i64 m ∧ gh = j - m ∧ Hid (RWW W wx p r l s (.slice qv j cv) M j ∧ s = catb B m (j - m) ++ List.replicate pd false))
      case atStart => exact ⟨0, _, by omega, rfl, rfl, S0.out, by rw [Nat.sub_zero, ← HL.out]⟩
      case round =>
        clear S0 HG J
        obtain ⟨m, s, hm, rfl, hg, J⟩ := hrel
        have HG := Lib.hid hg
        clear hg
        by_cases hlt : m < j
        · obtain ⟨gv, cv2, hv, cm⟩ := J.out.1.cell m hlt
          cases hv
          have hBj : B m = List.replicate (M m / 2 ^ R) true ++ [false] ++ bitsOf (M m) R := by rw [HBB.out]
          have hm1 : M m < D := (hMD.out m).1
          have hm2 : M m / 2 ^ R ≤ 59 := (hMD.out m).2
          have hs : s = List.replicate (M m / 2 ^ R) true ++ false :: (bitsOf (M m) R ++ (catb B (m + 1) (j - (m + 1)) ++ List.replicate pd false)) := by
            rw [J.out.2, show j - m = (j - (m + 1)) + 1 from by omega, catb, hBj]; simp
          have hfit : M m / 2 ^ R * 2 ^ R < 18446744073709551616 := Nat.lt_of_le_of_lt (Nat.div_mul_le_self _ _) (by omega)
          have hlen := bitsOf_length (M m) R
          have PV := vrice r (M m / 2 ^ R) R 60 (bitsOf (M m) R ++ (catb B (m + 1) (j - (m + 1)) ++ List.replicate pd false)) wr (by rw [← hs]; exact J.out.1.1) (by omega) (by decide) hR (by rw [List.length_append, hlen]; omega) hfit
          rw [List.take_append_of_le_length (by omega), List.take_of_length_le (by omega), valOf_bitsOf, Nat.mul_comm (M m / 2 ^ R), Nat.div_add_mod, List.drop_append_of_le_length (by omega), List.drop_of_length_le (by omega), List.nil_append] at PV
          have PV := Lib.hid PV
          clear hs hlen hBj hfit hm1 hm2
          generalize M m = mm at *
          go_wp2_with fail
          refine PV.out.mono ?_
          rintro e w5 ⟨rfl, hr, hk⟩
          have R5 := Lib.hid (J.out.1.read hr hk)
          clear hr hk
          go_wp2
          go_roundg (j - (m + 1))
          case measure => rw [HG.out]; omega
          case rel => exact ⟨m + 1, _, by omega, rfl, rfl, R5.out, rfl⟩
        · obtain rfl : m = j := by omega
          have hs : s = List.replicate pd false := by have := J.out.2; rw [Nat.sub_self, catb, List.nil_append] at this; exact this
          subst hs
          have hpd : (List.replicate pd false).length = pd := by simp
          have PL := vleft r (List.replicate pd false) wr J.out.1.1
          have RD := (J.out.1.more (Below.refl _ _).drew)
          have PV := vbits r (List.replicate pd false) pd wr.drew RD.1 (by omega) (by omega)
          rw [List.take_of_length_le (by omega), valOf_zero] at PV
          rw [hpd] at PL
          have PL := Lib.hid PL
          have PV := Lib.hid PV
          have HRD := Lib.hid RD
          clear RD hpd
          go_wp2_with fail
          refine PL.out.mono ?_
          rintro e w6 ⟨rfl, rfl⟩
          go_wp2_with fail
          refine PV.out.mono ?_
          rintro e w7 ⟨rfl, hr, hk⟩
          have R7 := Lib.hid (HRD.out.read hr hk).own
          have P1 := Lib.hid (o_bit true R7.out hlb)
          clear hr hk
          go_wp2_with fail
          refine P1.out.mono ?_
          rintro e w8 ⟨rfl, h8⟩
          have H8 := Lib.hid h8
          clear h8
          go_wp2
          go_ret
          exact ⟨by simp, by obtain ⟨_, _, _, h⟩ := H8.out; exact h⟩
end Go.Proofs.Ytfdfplblobihaaa
