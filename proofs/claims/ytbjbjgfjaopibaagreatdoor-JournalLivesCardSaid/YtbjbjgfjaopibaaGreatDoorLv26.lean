import Derived.Test.YtbjbjgfjaopibaaGreatDoorLv24
import Derived.Test.YtbjbjgfjaopibaaGreatDoorLv25
import Derived.Test.YtbjbjgfjaopibaaGreatDoorLv22
import Derived.Test.YtbjbjgfjaopibaaGreatDoorLv18
import Derived.Test.YtbjbjgfjaopibaaGreatDoorLv23
import Derived.Test.YtbjbjgfjaopibaaGreatDoorLv15
section
/- The document's journal: do. -/
namespace Go.Proofs.YtbjbjgfjaopibaaGreatDoor
open Go Go.RowKit
set_option linter.unusedSimpArgs false
set_option linter.unusedVariables false
set_option maxRecDepth 100000

theorem at_later {w5 W : World} {o : Option Nat} {x : PairD} {G : Nat} {N : Nat → Prop} (h : pairK.at' (fun b => N b ∧ b < w5.heap.size) w5 x) (hb : Below w5.heap.size w5 W) (ho : ∀ b, o = some b → w5.heap.size ≤ b) : pairK.at' (fun b => 0 ≤ b ∧ b < W.heap.size ∧ o ≠ some b) W x :=
  pairK.mono (pairK.keep h (Keep.of_below (X := fun _ => False) hb) (fun _ _ h => h)) (fun b hb' => ⟨Nat.zero_le _, Nat.lt_of_lt_of_le hb'.2 hb.size, fun e => by have h1 := ho b e; have h2 := hb'.2; omega⟩)
theorem getElem?_lt {α : Type} {L : List α} {k : Nat} (h : k < L.length) : ∃ y, L[k]? = some y := ⟨L[k], List.getElem?_eq_getElem h⟩
set_option maxHeartbeats 51200000 in
theorem rdo (x G B : Nat) (T v hv : Value) (L X : List PairD) (Y : List ByteArray) (N : Nat → Prop) (pq dq : Option Addr) (pn dn : Nat) (w : World) (hB : Blk w x #[T, v, .int .i64 (B : Int), hv] 71) (hL : KvAt N w v L) (hLl : L.length ≤ 90000000) (hN : ∀ b, N b → b ≠ x) (hBm : B ≤ 1000000000000)
    (hX : LstAt pairK 58 w G (.slice pq X.length pn) X) (hY : LstAt strK 9 w G (.slice dq Y.length dn) Y) (hXl : X.length ≤ 20000) (hYl : Y.length ≤ 20000) (hxG : x < G) (hG : G ≤ w.heap.size) :
    Calls Tryz.prog 39 #[.pointer (some ⟨x, 0, none⟩), .agg #[.slice pq X.length pn, .slice dq Y.length dn]] w fun e w' => e = .returned (.tuple #[]) ∧ ∃ v', Keep (fun k => k = x) w w' ∧ Blk w' x #[T, v', .int .i64 ((B + 1 : Nat) : Int), hv] 71 ∧ KvAt (fun b => N b ∨ G ≤ b) w' v' (delsR (putsR L X) Y) := by
  obtain ⟨N', hN'⟩ : ∃ N' : Nat → Prop, N' = fun b => N b ∨ G ≤ b := ⟨_, rfl⟩
  have hN1 : ∀ b, N' b → b ≠ x := fun b h => by
    rw [hN'] at h
    rcases h with h | h
    · exact hN b h
    · omega
  have hN2 : ∀ b, G ≤ b → N' b := fun b h => by rw [hN']; exact .inr h
  have hN3 : ∀ b, N b → N' b := fun b h => by rw [hN']; exact .inl h
  rw [← hN']
  clear hN'
  have b0 := Blk.new w #[.slice pq X.length pn, .slice dq Y.length dn] 41
  have k0 : Below w.heap.size w (w.alloc (.cells #[.slice pq X.length pn, .slice dq Y.length dn] 41)) := (Below.refl w.heap.size w).alloc (Nat.le_refl _) _
  have hs0 : (w.alloc (.cells #[.slice pq X.length pn, .slice dq Y.length dn] 41)).heap.size = w.heap.size + 1 := by simp
  obtain ⟨w0, hw0⟩ : ∃ w0, w0 = w.alloc (.cells #[.slice pq X.length pn, .slice dq Y.length dn] 41) := ⟨_, rfl⟩
  rw [← hw0] at b0 k0 hs0
  have kk0 := Keep.of_below (X := fun _ => False) k0
  have hB0 := kk0.blk hB (fun h => h)
  have hL0 := (hL.more k0).mono hN3
  have hKX := (KvAt.lst hX).more k0
  have hSY := (SvAt.lst hY).keep kk0 (fun _ _ h => h)
  have c0 := b0.cell 0
  have c1 := b0.cell 1
  obtain ⟨n, hn⟩ : ∃ n, n = X.length := ⟨_, rfl⟩
  obtain ⟨m, hm⟩ : ∃ m, m = Y.length := ⟨_, rfl⟩
  rw [← hn] at c0 hw0 hXl ⊢
  rw [← hm] at c1 hw0 hYl ⊢
  have HB := Lib.hid (And.intro b0 (And.intro k0 (And.intro hB0 hL0)))
  have HX := Lib.hid (And.intro hKX (And.intro hn hXl))
  have HY := Lib.hid (And.intro hSY (And.intro hm hYl))
  have HN := Lib.hid (And.intro hN1 (And.intro hN2 (And.intro hxG (And.intro hG hs0))))
  have HL := Lib.hid (And.intro hLl hBm)
  clear hB hL hN hX hY b0 k0 kk0 hB0 hL0 hKX hSY hn hm hN1 hN2 hN3 hxG hG hs0 hLl hBm
  go_enter Tryz.func39, Tryz.ntmps39
  go_upto_region 1 with fail
  rw [← hw0]
  clear hw0
  generalize hgb : w.heap.size = gb at *
  go_wp2
  go_loopg [15] n (fun gh i wx => ∃ (k : Nat) (v1 : Value), i = .int .i64 (k : Int) ∧ gh = n - k ∧ k ≤ n ∧ Hid (Keep (fun b => b = x) w0 wx ∧ Blk wx x #[T, v1, .int .i64 (B : Int), hv] 71 ∧ KvAt N' wx v1 (putsR L (X.take k))))
  case atStart => exact ⟨0, v, rfl, rfl, Nat.zero_le _, Keep.refl _ _, HB.out.2.2.1, HB.out.2.2.2⟩
  case round =>
    obtain ⟨k, v1, rfl, hg, hkn, HK⟩ := hrel
    have HG := Lib.hid hg
    clear hg
    by_cases hlt : k < n
    · obtain ⟨⟨pk, ⟨pa, pc, pz⟩⟩, hxE⟩ : ∃ y : PairD, X[k]? = some y := getElem?_lt (by rw [← HX.out.2.1]; exact hlt)
      have hKw : KvAt (fun b => G ≤ b) wr (.slice pq X.length pn) X := HX.out.1.keep HK.out.1 (fun b hb e => by have := HN.out.2.2.1; omega)
      obtain ⟨bb, off, cc, hv0, _, hNb, t0, t1, hat⟩ := hKw.get hxE
      rw [← HX.out.2.1] at hv0
      cases hv0
      change wr.cell? ⟨bb, off + k * 2, none⟩ = some (.string pk) at t0
      change wr.cell? ⟨bb, off + k * 2 + 1, none⟩ = some (.slice pa pz.length pc) at t1
      have hTk : X.take (k + 1) = X.take k ++ [⟨pk, ⟨pa, pc, pz⟩⟩] := by rw [List.take_add_one, hxE]; rfl
      have hLk : (putsR L (X.take k)).length ≤ 100000000 := by
        have h1 := putsR_len (X.take k) L
        have h2 : (X.take k).length ≤ k := List.length_take_le _ _
        have h3 := HL.out.1
        have h4 := HX.out.2.2
        omega
      have bp := Blk.new wr #[.string pk, .slice pa pz.length pc] 58
      have kp := (Below.refl wr.heap.size wr).alloc (Nat.le_refl _) (.cells #[.string pk, .slice pa pz.length pc] 58)
      have hsp : (wr.alloc (.cells #[.string pk, .slice pa pz.length pc] 58)).heap.size = wr.heap.size + 1 := by simp
      have hxw : x < wr.heap.size := HK.out.2.1.lt
      have hbp : Blk (wr.alloc (.cells #[.string pk, .slice pa pz.length pc] 58)) x #[T, v1, .int .i64 (B : Int), hv] 71 := (Keep.of_below (X := fun _ => False) kp).blk HK.out.2.1 (fun h => h)
      have hKp := HK.out.2.2.more kp
      have hKXp := hKw.more kp
      have hkp : Keep (fun b => b = x) w0 (wr.alloc (.cells #[.string pk, .slice pa pz.length pc] 58)) := HK.out.1.trans (Keep.of_below kp)
      have hGw : G ≤ wr.heap.size := by have := HK.out.1.size; have := HN.out.2.2.2.2; have := HN.out.2.2.2.1; omega
      obtain ⟨zl, hzl⟩ : ∃ zl, zl = pz.length := ⟨_, rfl⟩
      obtain ⟨w4, hw4⟩ : ∃ w4, w4 = wr.alloc (.cells #[.string pk, .slice pa pz.length pc] 58) := ⟨_, rfl⟩
      rw [← hw4] at bp kp hsp hbp hKp hKXp hkp
      obtain ⟨gp, hgp⟩ : ∃ gp, gp = wr.heap.size := ⟨_, rfl⟩
      rw [← hgp] at bp hsp hxw hGw
      have cp0 := bp.cell 0
      have D := Lib.hid (rdrop x T v1 (.int .i64 (B : Int)) hv (putsR L (X.take k)) N' pk w4 hbp hKp hLk HN.out.1)
      have H4 := Lib.hid (And.intro bp (And.intro hkp (And.intro (hKXp.at _ (List.mem_of_getElem? hxE)) (And.intro hTk (And.intro hsp (And.intro hxw (And.intro hGw hLk)))))))
      clear bp kp hbp hKp hKXp hkp hTk hsp hxw hGw hLk hat hNb hKw hxE
      rw [← hzl] at t1 hw4
      have HZL := Lib.hid hzl
      clear hzl
      go_upto_region 4 with fail
      rw [← hw4, ← hgp]
      clear hw4 hgp
      go_wp2_with fail
      refine D.out.mono ?_
      rintro e w5 ⟨rfl, v5, kd, bx5, hK5⟩
      clear D cp0
      have hM : KvAt N' w5 v5 (outK pk (putsR L (X.take k))) := hK5.mono (fun b hb => hb.elim id (fun h => HN.out.2.1 b (by have := H4.out.2.2.2.2.1; have := H4.out.2.2.2.2.2.2.1; omega)))
      obtain ⟨M, hMe⟩ : ∃ M, M = outK pk (putsR L (X.take k)) := ⟨_, rfl⟩
      rw [← hMe] at hM
      have hMl : M.length ≤ 100000000 := by rw [hMe]; exact Nat.le_trans (outK_len _ _) H4.out.2.2.2.2.2.2.2
      have bp5 := kd.blk H4.out.1 (fun e => by have := H4.out.2.2.2.2.2.1; omega)
      have hat5 : pairK.at' (fun b => G ≤ b ∧ b < w5.heap.size) w5 ⟨pk, ⟨pa, pc, pz⟩⟩ := pairK.mono (pairK.keep H4.out.2.2.1 kd (fun b hb e => by have h1 : b = x := e; have := hb.1; have := HN.out.2.2.1; omega)) (fun b hb => ⟨hb.1, Nat.lt_of_lt_of_le hb.2 kd.size⟩)
      have hk5 := H4.out.2.1.trans kd
      have hs5 := kd.size
      have cx1 := bx5.cell 1
      obtain ⟨q5, c5, rfl, hlc5⟩ := hM.form
      obtain ⟨ml, hml⟩ : ∃ ml, ml = M.length := ⟨_, rfl⟩
      have H5 := Lib.hid (And.intro bp5 (And.intro bx5 (And.intro hM (And.intro hat5 (And.intro hk5 (And.intro hml (And.intro hMe (And.intro H4.out.2.2.2.1 (And.intro H4.out.2.2.2.2.2.1 (And.intro H4.out.2.2.2.2.2.2.1 (by have := H4.out.2.2.2.2.1; omega : gp < w5.heap.size)))))))))))
      rw [← hml] at cx1 hMl hlc5
      clear bp5 bx5 hM hat5 hk5 hs5 hml hMe kd hK5 H4
      go_upto_region 7 with fail
      go_wp2
      go_loopg [6, 7, 28] ml (fun gh vo dn i wx => ∃ (a : Nat) (O : List PairD) (o : Option Nat), i = .int .i64 (a : Int) ∧ gh = ml - a ∧ a ≤ ml ∧ dn = .bool (anyGt ⟨pk, ⟨pa, pc, pz⟩⟩ (M.take a)) ∧ Hid (LstO pairK 58 wx 0 o vo O ∧ O = insG ⟨pk, ⟨pa, pc, pz⟩⟩ (M.take a) ∧ (∀ b, o = some b → w5.heap.size ≤ b) ∧ Below w5.heap.size w5 wx))
      case atStart => exact ⟨0, [], none, rfl, rfl, Nat.zero_le _, rfl, LstO.nil _ _ _ _, rfl, (fun b e => by cases e), Below.refl _ _⟩
      case round =>
        obtain ⟨a, O, o, rfl, hg, haM, rfl, HK2⟩ := hrel
        have HG2 := Lib.hid hg
        clear hg
        obtain ⟨qo, no, rfl, _⟩ := HK2.out.1.1.form
        have hOl : O.length ≤ a + 1 := by
          rw [HK2.out.2.1]
          have h1 := insG_len ⟨pk, ⟨pa, pc, pz⟩⟩ (M.take a)
          have h2 := List.length_take_le a M
          omega
        obtain ⟨d0, hd0⟩ : ∃ d0, d0 = anyGt ⟨pk, ⟨pa, pc, pz⟩⟩ (M.take a) := ⟨_, rfl⟩
        rw [← hd0]
        have HD := Lib.hid hd0
        clear hd0
        by_cases hla : a < ml
        · obtain ⟨⟨ek, ⟨ea, ec, ez⟩⟩, hyE⟩ : ∃ y : PairD, M[a]? = some y := getElem?_lt (by rw [← H5.out.2.2.2.2.2.1]; exact hla)
          have kw2 : Keep (fun _ => False) w5 wr := Keep.of_below HK2.out.2.2.2
          obtain ⟨b2, off2, cc2, hv2, _, _, s0, s1, _⟩ := (H5.out.2.2.1.keep kw2 (fun _ _ h => h)).get hyE
          rw [← H5.out.2.2.2.2.2.1] at hv2
          cases hv2
          change wr.cell? ⟨b2, off2 + a * 2, none⟩ = some (.string ek) at s0
          change wr.cell? ⟨b2, off2 + a * 2 + 1, none⟩ = some (.slice ea ez.length ec) at s1
          have be := Blk.new wr #[.string ek, .slice ea ez.length ec] 58
          have ke := (Below.refl wr.heap.size wr).alloc (Nat.le_refl _) (.cells #[.string ek, .slice ea ez.length ec] 58)
          have hTa : M.take (a + 1) = M.take a ++ [⟨ek, ⟨ea, ec, ez⟩⟩] := by rw [List.take_add_one, hyE]; rfl
          have hg5 : w5.heap.size ≤ wr.heap.size := HK2.out.2.2.2.size
          have L9 := HK2.out.1.more ke
          have hB9 := HK2.out.2.2.2.trans (ke.mono hg5)
          obtain ⟨_, _, _, _, _, _, _, _, hatE⟩ := H5.out.2.2.1.get hyE
          have bp9 := (Keep.of_below (X := fun _ => False) hB9).blk H5.out.1 (fun h => h)
          have hOlt := HK2.out.1.lt
          obtain ⟨ezl, hezl⟩ : ∃ ezl, ezl = ez.length := ⟨_, rfl⟩
          obtain ⟨w9, hw9⟩ : ∃ w9, w9 = wr.alloc (.cells #[.string ek, .slice ea ez.length ec] 58) := ⟨_, rfl⟩
          rw [← hw9] at be ke L9 hB9 bp9
          obtain ⟨ge, hge⟩ : ∃ ge, ge = wr.heap.size := ⟨_, rfl⟩
          rw [← hge] at be hOlt
          have ce0 := be.cell 0
          have ce1 := be.cell 1
          have cp0 := bp9.cell 0
          have cp1 := bp9.cell 1
          have HE := Lib.hid hatE
          have H9 := Lib.hid (And.intro L9 (And.intro hB9 (And.intro HK2.out.2.2.1 (And.intro be (And.intro hOlt (And.intro hTa HK2.out.2.1))))))
          clear be ke hTa hg5 L9 hB9 hatE bp9 hOlt kw2 hyE
          rw [← hezl] at s1 hw9 ce1
          rw [← HZL.out] at cp1
          have HEZ := Lib.hid hezl
          clear hezl
          go_upto_region 10 with fail
          rw [← hw9, ← hge]
          clear hw9 hge
          cases d0 with
          | true =>
            have HX8 : O ++ [⟨ek, ⟨ea, ec, ez⟩⟩] = insG ⟨pk, ⟨pa, pc, pz⟩⟩ (M.take (a + 1)) ∧ anyGt ⟨pk, ⟨pa, pc, pz⟩⟩ (M.take (a + 1)) = true := by
              rw [H9.out.2.2.2.2.2.1]
              have h := insG_done (x := ⟨ek, ⟨ea, ec, ez⟩⟩) HD.out.symm
              exact ⟨by rw [h.1, ← H9.out.2.2.2.2.2.2], h.2⟩
            go_upto_region 13 with fail
            have hatT := at_later (G := 0) (o := o) HE.out H9.out.2.1 H9.out.2.2.1
            obtain ⟨ol, hol⟩ : ∃ ol, ol = O.length := ⟨_, rfl⟩
            obtain ⟨i1, z1, f1, f2, f3, f4, f5⟩ := info_ofJ pairInf
            obtain ⟨q8, n8, v7, w7, o7, hv8, run7, L7, k7, ho7⟩ := H9.out.1.add 38 Tryz.underlying38 f1 f2 f3 f4 f5 (by decide) (Nat.zero_le _) hatT (by unfold maxLen; omega) (by omega)
            cases hv8
            change (Builtin.append_ #[38, 38] 38 #[.slice qo O.length no, .slice (some ⟨w9.heap.size, 0, none⟩) 1 1]).run Tryz.prog (w9.alloc (.cells #[.string ek, .slice ea ez.length ec] 58)) = .ok v7 w7 at run7
            obtain ⟨q7, n7, rfl, _⟩ := L7.1.form
            have B7 : Below w5.heap.size w5 w7 := H9.out.2.1.trans (k7.below H9.out.2.1.size (fun b e => H9.out.2.2.1 b e))
            have P7 : ∀ b, o7 = some b → w5.heap.size ≤ b := fun b e => by
              rcases ho7 with h | ⟨g9, h, hg9⟩
              · exact H9.out.2.2.1 b (h ▸ e)
              · rw [h] at e; cases e; exact Nat.le_trans H9.out.2.1.size hg9
            obtain ⟨l7, hl7⟩ : ∃ l7, l7 = (O ++ [(⟨ek, ⟨ea, ec, ez⟩⟩ : PairD)]).length := ⟨_, rfl⟩
            rw [← hl7] at run7 L7
            rw [← HEZ.out] at run7
            try rw [← hol] at run7
            try rw [← hol]
            have H8 := Lib.hid (And.intro L7 (And.intro HX8.1 (And.intro P7 B7)))
            have HD8 := Lib.hid HX8.2
            clear L7 HX8 P7 B7 hl7 hol k7 ho7 f1 f2 f3 f4 f5 hatT
            go_wp2_with (at_builtin; refine wpl_append rfl _ _ 38 rfl rfl rfl run7 ?_)
            go_roundg (ml - (a + 1))
            case measure => rw [HG2.out]; omega
            case rel => exact ⟨a + 1, _, o7, by go_num, rfl, hla, congrArg Value.bool HD8.out.symm, H8⟩
          | false =>
            cases hl1 : Op.bytesLess ek.toList pk.toList with
            | true =>
              have hgt : gtK ⟨pk, ⟨pa, pc, pz⟩⟩ ⟨ek, ⟨ea, ec, ez⟩⟩ = false := by show (!Op.bytesLess ek.toList pk.toList && !(ek.toList == pk.toList)) = false; rw [hl1]; rfl
              have HX8 : O ++ [⟨ek, ⟨ea, ec, ez⟩⟩] = insG ⟨pk, ⟨pa, pc, pz⟩⟩ (M.take (a + 1)) ∧ anyGt ⟨pk, ⟨pa, pc, pz⟩⟩ (M.take (a + 1)) = false := by
                rw [H9.out.2.2.2.2.2.1]
                have h := insG_not (x := ⟨ek, ⟨ea, ec, ez⟩⟩) HD.out.symm hgt
                exact ⟨by rw [h.1, ← H9.out.2.2.2.2.2.2], h.2⟩
              clear hgt
              go_upto_region 13 with fail
              clear hl1
              have hatT := at_later (G := 0) (o := o) HE.out H9.out.2.1 H9.out.2.2.1
              obtain ⟨ol, hol⟩ : ∃ ol, ol = O.length := ⟨_, rfl⟩
              obtain ⟨i1, z1, f1, f2, f3, f4, f5⟩ := info_ofJ pairInf
              obtain ⟨q8, n8, v7, w7, o7, hv8, run7, L7, k7, ho7⟩ := H9.out.1.add 38 Tryz.underlying38 f1 f2 f3 f4 f5 (by decide) (Nat.zero_le _) hatT (by unfold maxLen; omega) (by omega)
              cases hv8
              change (Builtin.append_ #[38, 38] 38 #[.slice qo O.length no, .slice (some ⟨w9.heap.size, 0, none⟩) 1 1]).run Tryz.prog (w9.alloc (.cells #[.string ek, .slice ea ez.length ec] 58)) = .ok v7 w7 at run7
              obtain ⟨q7, n7, rfl, _⟩ := L7.1.form
              have B7 : Below w5.heap.size w5 w7 := H9.out.2.1.trans (k7.below H9.out.2.1.size (fun b e => H9.out.2.2.1 b e))
              have P7 : ∀ b, o7 = some b → w5.heap.size ≤ b := fun b e => by
                rcases ho7 with h | ⟨g9, h, hg9⟩
                · exact H9.out.2.2.1 b (h ▸ e)
                · rw [h] at e; cases e; exact Nat.le_trans H9.out.2.1.size hg9
              obtain ⟨l7, hl7⟩ : ∃ l7, l7 = (O ++ [(⟨ek, ⟨ea, ec, ez⟩⟩ : PairD)]).length := ⟨_, rfl⟩
              rw [← hl7] at run7 L7
              rw [← HEZ.out] at run7
              try rw [← hol] at run7
              try rw [← hol]
              have H8 := Lib.hid (And.intro L7 (And.intro HX8.1 (And.intro P7 B7)))
              have HD8 := Lib.hid HX8.2
              clear L7 HX8 P7 B7 hl7 hol k7 ho7 f1 f2 f3 f4 f5 hatT
              go_wp2_with (at_builtin; refine wpl_append rfl _ _ 38 rfl rfl rfl run7 ?_)
              go_roundg (ml - (a + 1))
              case measure => rw [HG2.out]; omega
              case rel => exact ⟨a + 1, _, o7, by go_num, rfl, hla, congrArg Value.bool HD8.out.symm, H8⟩
            | false =>
              cases hl2 : (ek.toList == pk.toList) with
              | true =>
                have hgt : gtK ⟨pk, ⟨pa, pc, pz⟩⟩ ⟨ek, ⟨ea, ec, ez⟩⟩ = false := by show (!Op.bytesLess ek.toList pk.toList && !(ek.toList == pk.toList)) = false; rw [hl2, Bool.not_true, Bool.and_false]
                have HX8 : O ++ [⟨ek, ⟨ea, ec, ez⟩⟩] = insG ⟨pk, ⟨pa, pc, pz⟩⟩ (M.take (a + 1)) ∧ anyGt ⟨pk, ⟨pa, pc, pz⟩⟩ (M.take (a + 1)) = false := by
                  rw [H9.out.2.2.2.2.2.1]
                  have h := insG_not (x := ⟨ek, ⟨ea, ec, ez⟩⟩) HD.out.symm hgt
                  exact ⟨by rw [h.1, ← H9.out.2.2.2.2.2.2], h.2⟩
                clear hgt
                go_upto_region 13 with fail
                clear hl1 hl2
                have hatT := at_later (G := 0) (o := o) HE.out H9.out.2.1 H9.out.2.2.1
                obtain ⟨ol, hol⟩ : ∃ ol, ol = O.length := ⟨_, rfl⟩
                obtain ⟨i1, z1, f1, f2, f3, f4, f5⟩ := info_ofJ pairInf
                obtain ⟨q8, n8, v7, w7, o7, hv8, run7, L7, k7, ho7⟩ := H9.out.1.add 38 Tryz.underlying38 f1 f2 f3 f4 f5 (by decide) (Nat.zero_le _) hatT (by unfold maxLen; omega) (by omega)
                cases hv8
                change (Builtin.append_ #[38, 38] 38 #[.slice qo O.length no, .slice (some ⟨w9.heap.size, 0, none⟩) 1 1]).run Tryz.prog (w9.alloc (.cells #[.string ek, .slice ea ez.length ec] 58)) = .ok v7 w7 at run7
                obtain ⟨q7, n7, rfl, _⟩ := L7.1.form
                have B7 : Below w5.heap.size w5 w7 := H9.out.2.1.trans (k7.below H9.out.2.1.size (fun b e => H9.out.2.2.1 b e))
                have P7 : ∀ b, o7 = some b → w5.heap.size ≤ b := fun b e => by
                  rcases ho7 with h | ⟨g9, h, hg9⟩
                  · exact H9.out.2.2.1 b (h ▸ e)
                  · rw [h] at e; cases e; exact Nat.le_trans H9.out.2.1.size hg9
                obtain ⟨l7, hl7⟩ : ∃ l7, l7 = (O ++ [(⟨ek, ⟨ea, ec, ez⟩⟩ : PairD)]).length := ⟨_, rfl⟩
                rw [← hl7] at run7 L7
                rw [← HEZ.out] at run7
                try rw [← hol] at run7
                try rw [← hol]
                have H8 := Lib.hid (And.intro L7 (And.intro HX8.1 (And.intro P7 B7)))
                have HD8 := Lib.hid HX8.2
                clear L7 HX8 P7 B7 hl7 hol k7 ho7 f1 f2 f3 f4 f5 hatT
                go_wp2_with (at_builtin; refine wpl_append rfl _ _ 38 rfl rfl rfl run7 ?_)
                go_roundg (ml - (a + 1))
                case measure => rw [HG2.out]; omega
                case rel => exact ⟨a + 1, _, o7, by go_num, rfl, hla, congrArg Value.bool HD8.out.symm, H8⟩
              | false =>
                have hgt : gtK ⟨pk, ⟨pa, pc, pz⟩⟩ ⟨ek, ⟨ea, ec, ez⟩⟩ = true := by show (!Op.bytesLess ek.toList pk.toList && !(ek.toList == pk.toList)) = true; rw [hl1, hl2]; rfl
                have HX0 : O ++ [⟨pk, ⟨pa, pc, pz⟩⟩] ++ [⟨ek, ⟨ea, ec, ez⟩⟩] = insG ⟨pk, ⟨pa, pc, pz⟩⟩ (M.take (a + 1)) ∧ anyGt ⟨pk, ⟨pa, pc, pz⟩⟩ (M.take (a + 1)) = true := by
                  rw [H9.out.2.2.2.2.2.1]
                  have h := insG_now (x := ⟨ek, ⟨ea, ec, ez⟩⟩) HD.out.symm hgt
                  exact ⟨by rw [h.1, ← H9.out.2.2.2.2.2.2], h.2⟩
                go_upto_region 11 with fail
                clear hl1 hl2 hgt
                have hatP := at_later (G := 0) (o := o) H5.out.2.2.2.1 H9.out.2.1 H9.out.2.2.1
                obtain ⟨i1, z1, f1, f2, f3, f4, f5⟩ := info_ofJ pairInf
                obtain ⟨q8, n8, v7, w11, o11, hv8, run7, L7, k7, ho7⟩ := H9.out.1.add 38 Tryz.underlying38 f1 f2 f3 f4 f5 (by decide) (Nat.zero_le _) hatP (by unfold maxLen; omega) (by omega)
                cases hv8
                change (Builtin.append_ #[38, 38] 38 #[.slice qo O.length no, .slice (some ⟨w9.heap.size, 0, none⟩) 1 1]).run Tryz.prog (w9.alloc (.cells #[.string pk, .slice pa pz.length pc] 58)) = .ok v7 w11 at run7
                obtain ⟨q11, n11, rfl, _⟩ := L7.1.form
                have B7 : Below w5.heap.size w5 w11 := H9.out.2.1.trans (k7.below H9.out.2.1.size (fun b e => H9.out.2.2.1 b e))
                have P7 : ∀ b, o11 = some b → w5.heap.size ≤ b := fun b e => by
                  rcases ho7 with h | ⟨g9, h, hg9⟩
                  · exact H9.out.2.2.1 b (h ▸ e)
                  · rw [h] at e; cases e; exact Nat.le_trans H9.out.2.1.size hg9
                obtain ⟨O1, hO1⟩ : ∃ O1, O1 = O ++ [(⟨pk, ⟨pa, pc, pz⟩⟩ : PairD)] := ⟨_, rfl⟩
                rw [← hO1] at run7 L7 HX0
                have hO1l : O1.length ≤ a + 2 := by rw [hO1, List.length_append]; show O.length + 1 ≤ _; omega
                have be11 := k7.blk H9.out.2.2.2.1 (fun e => by have := H9.out.2.2.2.2.1 _ e; omega)
                have ce0 := be11.cell 0
                have ce1 := be11.cell 1
                rw [← HEZ.out] at ce1
                rw [← HZL.out] at run7
                have H11 := Lib.hid (And.intro L7 (And.intro B7 P7))
                have HX8 := HX0
                clear L7 B7 P7 be11 k7 ho7 f1 f2 f3 f4 f5 hatP hO1 HX0
                obtain ⟨ol, hol⟩ : ∃ ol, ol = O.length := ⟨_, rfl⟩
                rw [← hol] at run7
                rw [← hol]
                clear hol
                obtain ⟨ol1, hol1⟩ : ∃ ol1, ol1 = O1.length := ⟨_, rfl⟩
                rw [← hol1] at run7
                go_upto_region 13 with (at_builtin; refine wpl_append rfl _ _ 38 rfl rfl rfl run7 ?_)
                clear run7
                have L11 := H11.out.1
                rw [← hol1] at hO1l
                have hatT := at_later (G := 0) (o := o11) HE.out H11.out.2.1 H11.out.2.2
                obtain ⟨ol, hol⟩ : ∃ ol, ol = O1.length := ⟨_, rfl⟩
                obtain ⟨i1, z1, f1, f2, f3, f4, f5⟩ := info_ofJ pairInf
                obtain ⟨q8, n8, v7, w7, o7, hv8, run7, L7, k7, ho7⟩ := H11.out.1.add 38 Tryz.underlying38 f1 f2 f3 f4 f5 (by decide) (Nat.zero_le _) hatT (by unfold maxLen; omega) (by omega)
                cases hv8
                change (Builtin.append_ #[38, 38] 38 #[.slice q11 O1.length n11, .slice (some ⟨w11.heap.size, 0, none⟩) 1 1]).run Tryz.prog (w11.alloc (.cells #[.string ek, .slice ea ez.length ec] 58)) = .ok v7 w7 at run7
                obtain ⟨q7, n7, rfl, _⟩ := L7.1.form
                have B7 : Below w5.heap.size w5 w7 := H11.out.2.1.trans (k7.below H11.out.2.1.size (fun b e => H11.out.2.2 b e))
                have P7 : ∀ b, o7 = some b → w5.heap.size ≤ b := fun b e => by
                  rcases ho7 with h | ⟨g9, h, hg9⟩
                  · exact H11.out.2.2 b (h ▸ e)
                  · rw [h] at e; cases e; exact Nat.le_trans H11.out.2.1.size hg9
                obtain ⟨l7, hl7⟩ : ∃ l7, l7 = (O1 ++ [(⟨ek, ⟨ea, ec, ez⟩⟩ : PairD)]).length := ⟨_, rfl⟩
                rw [← hl7] at run7 L7
                rw [← HEZ.out] at run7
                try rw [← hol] at run7
                try rw [← hol]
                have H8 := Lib.hid (And.intro L7 (And.intro HX8.1 (And.intro P7 B7)))
                have HD8 := Lib.hid HX8.2
                clear L7 HX8 P7 B7 hl7 hol k7 ho7 f1 f2 f3 f4 f5 hatT
                go_wp2_with (at_builtin; refine wpl_append rfl _ _ 38 rfl rfl rfl run7 ?_)
                go_roundg (ml - (a + 1))
                case measure => rw [HG2.out]; omega
                case rel => exact ⟨a + 1, _, o7, by go_num, rfl, hla, congrArg Value.bool HD8.out.symm, H8⟩
        · obtain rfl : a = ml := by omega
          have hMt : M.take a = M := by rw [H5.out.2.2.2.2.2.1]; exact List.take_length
          have HD' := Lib.hid (hMt ▸ HD.out : d0 = anyGt ⟨pk, ⟨pa, pc, pz⟩⟩ M)
          have hOe : O = insG ⟨pk, ⟨pa, pc, pz⟩⟩ M := hMt ▸ HK2.out.2.1
          clear hMt HD
          cases d0 with
          | true =>
            have hOT : O = insR ⟨pk, ⟨pa, pc, pz⟩⟩ M := by rw [hOe]; exact insG_end.1 HD'.out.symm
            clear hOe
            have hOT' := Lib.hid hOT
            clear hOT
            go_upto_region 17 with fail
            have hOT := hOT'.out
            have bxT := (Keep.of_below (X := fun _ => False) HK2.out.2.2.2).blk H5.out.2.1 (fun h => h)
            have cxT := bxT.cell 1
            have fxT := bxT.free 1
            have k2 : Keep (fun b => b = x) wr (wr.setCell ⟨x, 1, none⟩ (.slice qo O.length no)) := Keep.set (X := fun b => b = x) (Keep.refl _ wr) (p := ⟨x, 1, none⟩) (.inl rfl) _
            have bz := bxT.set 1 (.slice qo O.length no)
            have hKV0 : KvAt N' wr (.slice qo O.length no) O := KvAt.of HK2.out.1 (fun b e => HN.out.2.1 b (by have h1 := HK2.out.2.2.1 b e; have h2 := H5.out.2.2.2.2.2.2.2.2.2; omega)) (fun y hy => by
              rw [hOT] at hy
              rcases insR_mem hy with rfl | hy
              · exact pairK.mono (pairK.keep H5.out.2.2.2.1 (Keep.of_below (X := fun _ => False) HK2.out.2.2.2) (fun _ _ h => h)) (fun b hb => ⟨HN.out.2.1 b hb.1, Nat.lt_of_lt_of_le hb.2 HK2.out.2.2.2.size⟩)
              · exact pairK.mono (pairK.keep (H5.out.2.2.1.at y hy) (Keep.of_below (X := fun _ => False) HK2.out.2.2.2) (fun _ _ h => h)) (fun b hb => ⟨hb.1, Nat.lt_of_lt_of_le hb.2 HK2.out.2.2.2.size⟩))
            have hKV := hKV0.keep k2 (fun b hb e => HN.out.1 b hb e)
            have hP : O = putsR L (X.take (k + 1)) := by rw [H5.out.2.2.2.2.2.2.2.1, putsR_snoc, ← H5.out.2.2.2.2.2.2.1]; exact hOT
            rw [hP] at hKV
            have hkT : Keep (fun b => b = x) w0 (wr.setCell ⟨x, 1, none⟩ (.slice qo O.length no)) := (H5.out.2.2.2.2.1.trans (Keep.of_below HK2.out.2.2.2)).trans k2
            rw [← hP] at hKV
            have hP' := Lib.hid hP
            have HF := Lib.hid (And.intro hkT (And.intro bz hKV))
            clear bz hKV hKV0 hkT k2 hP hOT bxT
            obtain ⟨xl, hxl⟩ : ∃ xl, xl = O.length := ⟨_, rfl⟩
            rw [← hxl] at HF ⊢
            clear hxl
            go_wp2
            go_roundg (n - (k + 1))
            case measure => rw [HG.out]; omega
            case rel => exact ⟨k + 1, _, by go_num, rfl, hlt, HF.out.1, HF.out.2.1, hP'.out ▸ HF.out.2.2⟩
          | false =>
            have hO1T : O ++ [⟨pk, ⟨pa, pc, pz⟩⟩] = insR ⟨pk, ⟨pa, pc, pz⟩⟩ M := by rw [hOe]; exact insG_end.2 HD'.out.symm
            clear hOe
            have bpw := (Keep.of_below (X := fun _ => False) HK2.out.2.2.2).blk H5.out.1 (fun h => h)
            have cp0 := bpw.cell 0
            have cp1 := bpw.cell 1
            rw [← HZL.out] at cp1
            clear bpw
            have hatP := at_later (G := 0) (o := o) H5.out.2.2.2.1 HK2.out.2.2.2 HK2.out.2.2.1
            obtain ⟨i1, z1, f1, f2, f3, f4, f5⟩ := info_ofJ pairInf
            obtain ⟨q8, n8, v7, w11, o11, hv8, run7, L7, k7, ho7⟩ := HK2.out.1.add 38 Tryz.underlying38 f1 f2 f3 f4 f5 (by decide) (Nat.zero_le _) hatP (by unfold maxLen; omega) (by omega)
            cases hv8
            change (Builtin.append_ #[38, 38] 38 #[.slice qo O.length no, .slice (some ⟨wr.heap.size, 0, none⟩) 1 1]).run Tryz.prog (wr.alloc (.cells #[.string pk, .slice pa pz.length pc] 58)) = .ok v7 w11 at run7
            obtain ⟨q11, n11, rfl, _⟩ := L7.1.form
            have B7 : Below w5.heap.size w5 w11 := HK2.out.2.2.2.trans (k7.below HK2.out.2.2.2.size (fun b e => HK2.out.2.2.1 b e))
            have P7 : ∀ b, o11 = some b → w5.heap.size ≤ b := fun b e => by
              rcases ho7 with h | ⟨g9, h, hg9⟩
              · exact HK2.out.2.2.1 b (h ▸ e)
              · rw [h] at e; cases e; exact Nat.le_trans HK2.out.2.2.2.size hg9
            obtain ⟨O1, hO1⟩ : ∃ O1, O1 = O ++ [(⟨pk, ⟨pa, pc, pz⟩⟩ : PairD)] := ⟨_, rfl⟩
            rw [← hO1] at run7 L7 hO1T
            rw [← HZL.out] at run7
            have H11 := Lib.hid (And.intro L7 (And.intro B7 P7))
            have hOT' := Lib.hid hO1T
            clear L7 B7 P7 k7 ho7 f1 f2 f3 f4 f5 hatP hO1 hO1T
            obtain ⟨ol, hol⟩ : ∃ ol, ol = O.length := ⟨_, rfl⟩
            rw [← hol] at run7
            rw [← hol]
            clear hol
            obtain ⟨ol1, hol1⟩ : ∃ ol1, ol1 = O1.length := ⟨_, rfl⟩
            rw [← hol1] at run7
            go_upto_region 17 with (at_builtin; refine wpl_append rfl _ _ 38 rfl rfl rfl run7 ?_)
            clear run7
            try rw [hol1]
            clear hol1
            have hOT := hOT'.out
            have bxT := (Keep.of_below (X := fun _ => False) H11.out.2.1).blk H5.out.2.1 (fun h => h)
            have cxT := bxT.cell 1
            have fxT := bxT.free 1
            have k2 : Keep (fun b => b = x) w11 (w11.setCell ⟨x, 1, none⟩ (.slice q11 O1.length n11)) := Keep.set (X := fun b => b = x) (Keep.refl _ w11) (p := ⟨x, 1, none⟩) (.inl rfl) _
            have bz := bxT.set 1 (.slice q11 O1.length n11)
            have hKV0 : KvAt N' w11 (.slice q11 O1.length n11) O1 := KvAt.of H11.out.1 (fun b e => HN.out.2.1 b (by have h1 := H11.out.2.2 b e; have h2 := H5.out.2.2.2.2.2.2.2.2.2; omega)) (fun y hy => by
              rw [hOT] at hy
              rcases insR_mem hy with rfl | hy
              · exact pairK.mono (pairK.keep H5.out.2.2.2.1 (Keep.of_below (X := fun _ => False) H11.out.2.1) (fun _ _ h => h)) (fun b hb => ⟨HN.out.2.1 b hb.1, Nat.lt_of_lt_of_le hb.2 H11.out.2.1.size⟩)
              · exact pairK.mono (pairK.keep (H5.out.2.2.1.at y hy) (Keep.of_below (X := fun _ => False) H11.out.2.1) (fun _ _ h => h)) (fun b hb => ⟨hb.1, Nat.lt_of_lt_of_le hb.2 H11.out.2.1.size⟩))
            have hKV := hKV0.keep k2 (fun b hb e => HN.out.1 b hb e)
            have hP : O1 = putsR L (X.take (k + 1)) := by rw [H5.out.2.2.2.2.2.2.2.1, putsR_snoc, ← H5.out.2.2.2.2.2.2.1]; exact hOT
            rw [hP] at hKV
            have hkT : Keep (fun b => b = x) w0 (w11.setCell ⟨x, 1, none⟩ (.slice q11 O1.length n11)) := (H5.out.2.2.2.2.1.trans (Keep.of_below H11.out.2.1)).trans k2
            rw [← hP] at hKV
            have hP' := Lib.hid hP
            have HF := Lib.hid (And.intro hkT (And.intro bz hKV))
            clear bz hKV hKV0 hkT k2 hP hOT bxT
            obtain ⟨xl, hxl⟩ : ∃ xl, xl = O1.length := ⟨_, rfl⟩
            rw [← hxl] at HF ⊢
            clear hxl
            go_wp2
            go_roundg (n - (k + 1))
            case measure => rw [HG.out]; omega
            case rel => exact ⟨k + 1, _, by go_num, rfl, hlt, HF.out.1, HF.out.2.1, hP'.out ▸ HF.out.2.2⟩
    · obtain rfl : k = n := by omega
      have hXt : X.take k = X := by rw [HX.out.2.1]; exact List.take_length
      have c1w := (HK.out.1.blk HB.out.1 (fun e => by have := HN.out.2.2.1; have := HN.out.2.2.2.1; omega)).cell 1
      rw [← HY.out.2.1] at c1w
      go_wp2
      go_loopg [64] m (fun gh i wx => ∃ (j : Nat) (v2 : Value), i = .int .i64 (j : Int) ∧ gh = m - j ∧ j ≤ m ∧ Hid (Keep (fun b => b = x) w0 wx ∧ Blk wx x #[T, v2, .int .i64 (B : Int), hv] 71 ∧ KvAt N' wx v2 (delsR (putsR L X) (Y.take j))))
      case atStart => exact ⟨0, v1, rfl, rfl, Nat.zero_le _, HK.out.1, HK.out.2.1, by have h := HK.out.2.2; rwa [hXt] at h⟩
      case round =>
        obtain ⟨j, v2, rfl, hg, hjm, HJ⟩ := hrel
        have HG2 := Lib.hid hg
        clear hg
        by_cases hlj : j < m
        · obtain ⟨yk, hyE⟩ : ∃ y : ByteArray, Y[j]? = some y := getElem?_lt (by rw [← HY.out.2.1]; exact hlj)
          obtain ⟨bb, off, cc, hv0, _, hNb, t0⟩ := (HY.out.1.keep HJ.out.1 (fun b hb e => by have := HN.out.2.2.1; omega)).get hyE
          rw [← HY.out.2.1] at hv0
          cases hv0
          have hTk : Y.take (j + 1) = Y.take j ++ [yk] := by rw [List.take_add_one, hyE]; rfl
          have hLk : (delsR (putsR L X) (Y.take j)).length ≤ 100000000 := by
            have h0 := delsR_len (Y.take j) (putsR L X)
            have h1 := putsR_len X L
            have h3 := HL.out.1
            have h4 := HX.out.2
            omega
          have D := Lib.hid (rdrop x T v2 (.int .i64 (B : Int)) hv (delsR (putsR L X) (Y.take j)) N' yk wr HJ.out.2.1 HJ.out.2.2 hLk HN.out.1)
          have HT := Lib.hid (And.intro hTk (show G ≤ wr.heap.size by have := HJ.out.1.size; have := HN.out.2.2.2; omega))
          clear hTk hLk hNb hyE c1w
          go_wp2_with fail
          refine D.out.mono ?_
          rintro e w5 ⟨rfl, v5, kd, bx5, hK5⟩
          clear D
          have hM : KvAt N' w5 v5 (delsR (putsR L X) (Y.take (j + 1))) := by
            rw [HT.out.1, delsR_snoc]
            exact hK5.mono (fun b hb => hb.elim id (fun h => HN.out.2.1 b (by have := HT.out.2; omega)))
          have HF := Lib.hid (And.intro (HJ.out.1.trans kd) (And.intro bx5 hM))
          clear hM kd bx5 hK5
          go_wp2
          go_roundg (m - (j + 1))
          case measure => rw [HG2.out]; omega
          case rel => exact ⟨j + 1, v5, by go_num, rfl, hlj, HF.out⟩
        · obtain rfl : j = m := by omega
          have hYt : Y.take j = Y := by rw [HY.out.2.1]; exact List.take_length
          have hn1 : IntKind.i64.wrap ((B : Int) + 1) = ((B + 1 : Nat) : Int) := by rw [IntWalk.i64_in _ (by have := HL.out.2; omega)]; omega
          have c2 := HJ.out.2.1.cell 2
          have f2 := HJ.out.2.1.free 2
          have bz := HJ.out.2.1.set 2 (.int .i64 ((B + 1 : Nat) : Int))
          have k2 : Keep (fun b => b = x) wr (wr.setCell ⟨x, 2, none⟩ (.int .i64 ((B + 1 : Nat) : Int))) := Keep.set (X := fun b => b = x) (Keep.refl _ wr) (p := ⟨x, 2, none⟩) (.inl rfl) _
          have hK2 := HJ.out.2.2.keep k2 (fun b hb e => HN.out.1 b hb e)
          rw [hYt] at hK2
          have hkf : Keep (fun b => b = x) w (wr.setCell ⟨x, 2, none⟩ (.int .i64 ((B + 1 : Nat) : Int))) := ((Keep.of_below (by rw [hgb]; exact HB.out.2.1)).trans HJ.out.1).trans k2
          have HF := Lib.hid (And.intro hkf (And.intro bz hK2))
          clear hkf bz hK2 k2 hYt hXt
          go_wp2
          go_end0
          exact ⟨rfl, v2, HF.out⟩
end Go.Proofs.YtbjbjgfjaopibaaGreatDoor
end

section
/- The document's Commit. -/
namespace Go.Proofs.YtbjbjgfjaopibaaGreatDoor
open Go Go.RowKit
set_option linter.unusedSimpArgs false
set_option linter.unusedVariables false
set_option maxRecDepth 100000

theorem KvAt.old {N : Nat → Prop} {w : World} {v : Value} {L : List PairD} (h : KvAt N w v L) : KvAt (fun b => N b ∧ b < w.heap.size) w v L := by
  obtain ⟨q, c, h1, h2, h3, h4⟩ := h
  refine ⟨q, c, h1, h2, h3, fun i x hi => ?_⟩
  obtain ⟨b, o, e1, e2, e3, e4⟩ := h4 i x hi
  refine ⟨b, o, e1, ⟨e2, ?_⟩, e3, pairK.mono e4 (fun b hb => ⟨⟨hb.1, hb.2⟩, hb.2⟩)⟩
  have := e3 0 (by show 0 < 2; omega)
  exact cell_lt (v := .string x.key) this
theorem ref_keep {X : Nat → Prop} {w w' : World} {p : Nat} {xs : List Int} {sy ro fu : Int} {o : Option Nat} (h : RefAt w p xs sy ro fu o) (hk : Keep X w w') (hn : ∀ k, foot p o k → ¬ X k) : RefAt w' p xs sy ro fu o := by
  obtain ⟨v, h1, h2, h3⟩ := h
  exact ⟨v, hk.blk h1 (hn p (.inl rfl)), h2.keep hk (fun g hg => hn g (.inr hg)), h3⟩
theorem ref_lt {w : World} {p : Nat} {xs : List Int} {sy ro fu : Int} {o : Option Nat} (h : RefAt w p xs sy ro fu o) : ∀ k, foot p o k → k < w.heap.size := by
  obtain ⟨v, h1, h2, h3⟩ := h
  rintro k (rfl | hk)
  · exact h1.lt
  · exact h2.lt k hk
/-- the document's journal and its tape -/
def DA (N : Nat → Prop) (w : World) (x y : Nat) (o : Option Nat) (xs : List Int) (sy ro fu : Int) (L : List PairD) (n : Nat) (hd : Bool) : Prop :=
  RefAt w y xs sy ro fu o ∧ ∃ lv, Blk w x #[.pointer (some ⟨y, 0, none⟩), lv, .int .i64 (n : Int), .bool hd] 71 ∧ KvAt N w lv L
/-- what 'Commit' does when it comes to the tape -/
def RComTape (x y : Nat) (z : BatD) (xs : List Int) (sy ro fu : Int) (o : Option Nat) (L : List PairD) (n : Nat) (N : Nat → Prop) (w : World) (e : Ending) (w' : World) : Prop :=
  ∃ o', (o' = o ∨ ∃ g, o' = some g ∧ w.heap.size ≤ g) ∧
    ((appE xs.length (frmX z).length ro fu ≠ 0 ∧ e = .returned (.int .i64 (appE xs.length (frmX z).length ro fu)) ∧ DA (fun g => (N g ∨ w.heap.size ≤ g) ∧ ¬ foot y o' g ∧ g ≠ x) w' x y o' xs sy ro (burn fu) L n true) ∨
     (appE xs.length (frmX z).length ro fu = 0 ∧ burnE (burn fu) ≠ 0 ∧ e = .returned (.int .i64 (burnE (burn fu))) ∧ DA (fun g => (N g ∨ w.heap.size ≤ g) ∧ ¬ foot y o' g ∧ g ≠ x) w' x y o' (xs ++ frmX z) sy ro (burn (burn fu)) L n true) ∨
     (appE xs.length (frmX z).length ro fu = 0 ∧ burnE (burn fu) = 0 ∧ e = .returned (.int .i64 0) ∧ ∃ L' : List PairD, L'.map pairX = doK (L.map pairX) z ∧ DA (fun g => (N g ∨ w.heap.size ≤ g) ∧ ¬ foot y o' g ∧ g ≠ x) w' x y o' (xs ++ frmX z) ((xs ++ frmX z).length : Int) ro (burn (burn fu)) L' (n + 1) false))
def RComPost (x y : Nat) (z : BatD) (xs : List Int) (sy ro fu : Int) (o : Option Nat) (L : List PairD) (n : Nat) (hd : Bool) (N : Nat → Prop) (w : World) (e : Ending) (w' : World) : Prop :=
  Keep (fun k => foot y o k ∨ k = x) w w' ∧
    ((¬ CanB z ∧ e = .returned (.int .i64 1) ∧ Below w.heap.size w w') ∨ (CanB z ∧ hd = true ∧ e = .returned (.int .i64 210) ∧ Below w.heap.size w w') ∨ (CanB z ∧ hd = false ∧ RComTape x y z xs sy ro fu o L n N w e w'))
set_option maxHeartbeats 12800000 in
theorem rcommit0 (x y : Nat) (X : BatchD) (xs : List Int) (sy ro fu : Int) (o : Option Nat) (L : List PairD) (n : Nat) (hd : Bool) (N : Nat → Prop) (w : World) (hD : DA N w x y o xs sy ro fu L n hd) (hxl : xs.length ≤ 16777216) (hr0 : 0 ≤ ro) (hr1 : ro ≤ 16777216) (hf0 : -1 ≤ fu) (hf1 : fu ≤ 9223372036854775807)
    (hl : L.length ≤ 90000000) (hn : n ≤ 1000000000000) (hX : BatOk w X) (hXN : BatIn (fun g => ¬ foot y o g ∧ g ≠ x) X) (hNT : ∀ k, foot y o k → ¬ N k ∧ k ≠ x) (hNx : ∀ b, N b → b ≠ x) :
    Calls Tryz.prog 15 #[.pointer (some ⟨x, 0, none⟩), .agg (batCs X).toArray] w (RComPost x y (batX X) xs sy ro fu o L n hd N w) := by
  change Calls Tryz.prog 15 #[.pointer (some ⟨x, 0, none⟩), .agg #[.slice X.puts.a X.puts.n X.puts.c, .slice X.dels.a X.dels.n X.dels.c]] w _
  obtain ⟨hT, lv, hB, hV⟩ := hD
  have k0 := (Below.refl w.heap.size w).alloc (Nat.le_refl _) (.cells #[.slice X.puts.a X.puts.n X.puts.c, .slice X.dels.a X.dels.n X.dels.c] 41)
  have bn := Blk.new w #[.slice X.puts.a X.puts.n X.puts.c, .slice X.dels.a X.dels.n X.dels.c] 41
  have PW := rbody X (w.alloc (.cells #[.slice X.puts.a X.puts.n X.puts.c, .slice X.dels.a X.dels.n X.dels.c] 41)) (hX.below k0)
  change Calls Tryz.prog 46 #[.agg #[.slice X.puts.a X.puts.n X.puts.c, .slice X.dels.a X.dels.n X.dels.c]] _ _ at PW
  have HN := Lib.hid (And.intro hT (And.intro hB (And.intro hV.old (And.intro hNT hNx))))
  have HR := Lib.hid (And.intro hxl (And.intro hr0 (And.intro hr1 (And.intro hf0 (And.intro hf1 (And.intro hl hn))))))
  have HX := Lib.hid (And.intro hX hXN)
  have HW := Lib.hid (And.intro k0 bn)
  have c0 := bn.cell 0
  have c1 := bn.cell 1
  clear hT hB hV hNT hNx hxl hr0 hr1 hf0 hf1 hl hn hX hXN k0 bn
  obtain ⟨pn, hpn⟩ : ∃ pn, pn = X.puts.n := ⟨_, rfl⟩
  obtain ⟨dn, hdn⟩ : ∃ dn, dn = X.dels.n := ⟨_, rfl⟩
  obtain ⟨pa, hpa⟩ : ∃ pa, pa = X.puts.a := ⟨_, rfl⟩
  obtain ⟨da, hda⟩ : ∃ da, da = X.dels.a := ⟨_, rfl⟩
  obtain ⟨pc, hpc⟩ : ∃ pc, pc = X.puts.c := ⟨_, rfl⟩
  obtain ⟨dc, hdc⟩ : ∃ dc, dc = X.dels.c := ⟨_, rfl⟩
  rw [← hpn, ← hdn, ← hpa, ← hda, ← hpc, ← hdc] at HW PW c0 c1 ⊢
  have HP := Lib.hid (And.intro hpn (And.intro hdn (And.intro hpa (And.intro hda (And.intro hpc hdc)))))
  clear hpn hdn hpa hda hpc hdc
  go_enter Tryz.func15, Tryz.ntmps15
  go_upto_region 1 with fail
  generalize w.alloc (.cells #[.slice pa pn pc, .slice da dn dc] 41) = w0 at *
  have PW := Lib.hid PW
  clear c0 c1
  have c0 := HW.out.2.cell 0
  have c1 := HW.out.2.cell 1
  go_wp2_with fail
  refine PW.out.mono ?_
  rintro e w1 ⟨hb1, hcase⟩
  have hb01 : Below w.heap.size w w1 := HW.out.1.trans (hb1.mono HW.out.1.size)
  rcases hcase with ⟨hcan, p1, cc1, o1, rfl, R1, ho1⟩ | ⟨hcan, v, rfl⟩
  · have B1 := (Keep.of_below (X := fun _ => False) hb01).blk HN.out.2.1 (fun h => h)
    have hbl : (batB (batX X)).length ≤ 1048576 := hcan.len
    obtain ⟨_, _, e1, hy1, hle1, hcm1, hq1⟩ := R1.form
    cases e1
    have H1 := Lib.hid (And.intro hb01 (And.intro hcan (And.intro R1 (And.intro ho1 (And.intro hb1 (And.intro hy1 (And.intro hle1 B1)))))))
    have c3 : w1.cell? ⟨x, 3, none⟩ = some (.bool hd) := B1.cell 3
    clear hb01 hcan R1 ho1 hb1 hy1 hle1 hq1 B1 c0 c1
    obtain ⟨bl, hbln⟩ : ∃ bl, bl = (batB (batX X)).length := ⟨_, rfl⟩
    rw [← hbln] at hbl ⊢
    have HBL := Lib.hid hbln
    clear hbln
    cases hd
    · have PF := rframe (batB (batX X)) p1 cc1 w1.drew H1.out.2.2.2.2.2.1 (batB_byt' HX.out.1 H1.out.2.1) (by rw [← HBL.out]; omega)
      rw [← HBL.out] at PF
      have PF := Lib.hid PF
      have cj0 : w1.drew.cell? ⟨x, 0, none⟩ = some (.pointer (some ⟨y, 0, none⟩)) := H1.out.2.2.2.2.2.2.2.cell 0
      go_upto_region 6 with fail
      refine wp_region_held_drew (S := fun w' => w'.cell? ⟨x, 0, none⟩ = some (.pointer (some ⟨y, 0, none⟩))) (by kernel_rfl) cj0 (fun hS => ?_)
      refine tkH 0 (v := ?_) rfl (by kernel_rfl) ⟨by rfl, ?_⟩ hS ?_
      rotate_left
      · intro w0 hs; skip; go_simp; try (with_reducible rfl)
      try simp only [Act.put, List.setIfInBounds_toArray, List.set_cons_zero, List.set_cons_succ]
      refine tkH 1 (v := ?_) rfl (by kernel_rfl) ⟨by rfl, ?_⟩ hS ?_
      rotate_left
      · intro w0 hs; skip; go_simp; try (with_reducible rfl)
      try simp only [Act.put, List.setIfInBounds_toArray, List.set_cons_zero, List.set_cons_succ]
      refine tkH 2 (v := ?_) rfl (by kernel_rfl) ⟨by rfl, ?_⟩ hS ?_
      rotate_left
      · intro w0 hs; skip; go_simp; try (with_reducible rfl)
      try simp only [Act.put, List.setIfInBounds_toArray, List.set_cons_zero, List.set_cons_succ]
      refine tkH 3 (v := ?_) rfl (by kernel_rfl) ⟨by rfl, ?_⟩ hS ?_
      rotate_left
      · intro w0 hs; skip; go_simp; try (with_reducible rfl)
      try simp only [Act.put, List.setIfInBounds_toArray, List.set_cons_zero, List.set_cons_succ]
      refine tkH 4 (v := ?_) rfl (by kernel_rfl) ⟨by rfl, ?_⟩ hS ?_
      rotate_left
      · intro w0 hs; skip; go_simp; try (with_reducible rfl)
      try simp only [Act.put, List.setIfInBounds_toArray, List.set_cons_zero, List.set_cons_succ]
      refine wpAnyH_ready (rs := [5]) (by kernel_rfl) (by simp) ?_
      refine AllReadyH.cons (o := ⟨_, _, _, _, _, _⟩) rfl (fun K hK => ?_) AllReadyH.nil
      rw [if_pos (by rfl)]
      go_step
      refine PF.out.mono ?_
      rintro e w2 ⟨p2, c2, o2, rfl, R2, ho2, hb2⟩
      simp only []
      refine hK.out _ _ (((Keep.of_below (X := fun _ => False) hb2).cell (p := ⟨x, 0, none⟩) (cell_lt cj0) (fun h => h)).trans hS) (fun hS' => ?_)
      clear hS hK
      have hS := hS'; clear hS'
      try simp only [Act.put, List.setIfInBounds_toArray, List.set_cons_zero, List.set_cons_succ]
      refine wpAnyH_ready (rs := [6]) (by kernel_rfl) (by simp) ?_
      refine AllReadyH.cons (o := ⟨_, _, _, _, _, _⟩) rfl (fun K hK => ?_) AllReadyH.nil
      rw [if_pos (by rfl)]
      go_step
      have kC : Below w.heap.size w w2 := H1.out.1.drew.trans (hb2.mono H1.out.1.size)
      have T2 := ref_keep HN.out.1 (Keep.of_below (X := fun _ => False) kC) (fun _ _ h => h)
      obtain ⟨_, _, e2, hy2, _⟩ := R2.form
      cases e2
      have PA := rappend y xs (frmX (batX X)) sy ro fu o p2 c2 w2 T2 hy2 (fun h0 a ha => by have hro := R2.form; obtain ⟨_, _, e3, _, _, _, hq⟩ := hro; cases e3; rcases hq with ⟨hq, _⟩ | ⟨g, hq, hq2, _⟩; rw [hq] at ha; cases ha; rw [hq2] at ha; cases ha; exact fun hf => by have h1 := ref_lt HN.out.1 _ hf; have h2 := ho2 g hq; have h3 : w1.drew.heap.size = w1.heap.size := rfl; have h4 := H1.out.1.size; simp only at h1; omega) HR.out.1 (by rw [show frmX (batX X) = frmB (batB (batX X)) from rfl, frmB_len, ← HBL.out]; omega) HR.out.2.1 HR.out.2.2.1 HR.out.2.2.2.1 HR.out.2.2.2.2.1
      refine PA.mono ?_
      rintro e w4 ⟨rfl, ⟨o4, T4, ho4⟩, k4⟩
      simp only []
      refine hK.out _ _ ((k4.cell (p := ⟨x, 0, none⟩) (cell_lt hS) (fun h => (HN.out.2.2.2.1 _ h).2 rfl)).trans hS) (fun hS' => ?_)
      clear hS hK
      have hS := hS'; clear hS'
      try simp only [Act.put, List.setIfInBounds_toArray, List.set_cons_zero, List.set_cons_succ]
      refine tkH 7 (v := ?_) rfl (by kernel_rfl) ⟨by rfl, ?_⟩ hS ?_
      rotate_left
      · intro w0 hs; skip; go_simp; try (with_reducible rfl)
      try simp only [Act.put, List.setIfInBounds_toArray, List.set_cons_zero, List.set_cons_succ]
      refine wpAnyH_done (by kernel_rfl) ?_ _
      have hNT := HN.out.2.2.2.1
      have hK4 : Keep (fun k => foot y o k ∨ k = x) w w4 := (Keep.of_below kC).trans (k4.mono fun k h => .inl h)
      have hV4 : KvAt (fun g => (N g ∨ w.heap.size ≤ g) ∧ ¬ foot y o4 g ∧ g ≠ x) w4 lv L := ((HN.out.2.2.1.more kC).keep k4 (fun b hb hf => (hNT _ hf).1 hb.1)).mono (fun b hb => ⟨.inl hb.1, fun hf => by
        rcases hf with hf | hf
        · exact (hNT _ (.inl rfl)).1 (hf ▸ hb.1)
        · rcases ho4 with h | ⟨g4, h, hle⟩
          · rw [h] at hf; exact (hNT _ (.inr hf)).1 hb.1
          · rw [h] at hf; cases hf; have := kC.size; omega, HN.out.2.2.2.2 _ hb.1⟩)
      have hV4o : KvAt (fun g => N g ∧ g < w.heap.size) w4 lv L := (HN.out.2.2.1.more kC).keep k4 (fun b hb hf => (hNT _ hf).1 hb.1)
      have hB4 := k4.blk ((Keep.of_below (X := fun _ => False) kC).blk HN.out.2.1 (fun h => h)) (fun h => (hNT _ h).2 rfl)
      have hso : o4 = o ∨ ∃ g, o4 = some g ∧ w.heap.size ≤ g := ho4.imp id fun ⟨g, h1, h2⟩ => ⟨g, h1, by have := kC.size; omega⟩
      have hft4 : ∀ k, foot y o4 k → foot y o k ∨ w.heap.size ≤ k := fun k hk => by
        rcases hk with rfl | hk
        · exact .inl (.inl rfl)
        · rcases hso with h | ⟨g4, h, hle⟩
          · rw [h] at hk; exact .inl (.inr hk)
          · rw [h] at hk; cases hk; exact .inr hle
      have hfx : ∀ k, foot y o4 k → k ≠ x := fun k hk => by
        rcases hft4 k hk with h | h
        · exact (hNT _ h).2
        · have := HN.out.2.1.lt; omega
      have hbb2 : Blk w2 w.heap.size #[.slice pa pn pc, .slice da dn dc] 41 := (show Blk w1.drew w.heap.size _ _ from HW.out.2.beyond (w' := w1) H1.out.2.2.2.2.1).beyond hb2
      have hbb : Blk w4 w.heap.size #[.slice pa pn pc, .slice da dn dc] 41 := k4.blk hbb2 (fun h => by have := ref_lt HN.out.1 _ h; omega)
      have hgb4 : ¬ foot y o4 w.heap.size := fun h => by
        rcases h with h | h
        · have := ref_lt HN.out.1 _ (.inl rfl); omega
        · rcases ho4 with h4 | ⟨g4, h4, hle⟩
          · rw [h4] at h; have := ref_lt HN.out.1 _ (.inr h); omega
          · rw [h4] at h; cases h; have := hbb2.lt; omega
      have hfl : (frmX (batX X)).length = (frmB (batB (batX X))).length := rfl
      obtain ⟨E1, hE1⟩ : ∃ E1, E1 = appE xs.length (frmX (batX X)).length ro fu := ⟨_, rfl⟩
      rw [← hE1]
      have HE := Lib.hid hE1
      have HA := Lib.hid (And.intro T4 (And.intro hV4 (And.intro hK4 (And.intro hso hfx))))
      have HA2 := Lib.hid (And.intro hB4 (And.intro hV4o (And.intro hft4 (And.intro hbb hgb4))))
      clear hE1 T4 hV4 hK4 hso hfx hB4 hV4o hft4 hbb hbb2 hgb4 hNT kC T2 hy2 R2 ho2 hb2 k4 ho4 hS c3 cj0 hfl
      by_cases hE0 : E1 = 0
      · have hT4 : RefAt w4 y (xs ++ frmX (batX X)) sy ro (burn fu) o4 := by have h := HA.out.1; rw [appB_ok (by rw [← HE.out]; exact hE0)] at h; exact h
        have hbr := burn_rng HR.out.2.2.2.1 HR.out.2.2.2.2.1
        have PS := Lib.hid (rsync y (xs ++ frmX (batX X)) sy ro (burn fu) o4 w4 hT4 hbr.1 hbr.2)
        have cj0 := HA2.out.1.cell 0
        have HE0 := Lib.hid hE0
        subst hE0
        clear hT4 hbr
        go_wp2_with fail
        refine PS.out.mono ?_
        rintro e w5 ⟨rfl, T5, k5⟩
        have hK5 : Keep (fun k => foot y o k ∨ k = x) w w5 := HA.out.2.2.1.trans' k5 (fun k hk => by
          rcases HA2.out.2.2.1 k hk with h | h
          · exact .inl (.inl h)
          · exact .inr h)
        have hB5 := k5.blk HA2.out.1 (fun h => HA.out.2.2.2.2 _ h rfl)
        have hV5 := HA.out.2.1.keep k5 (fun b hb hf => hb.2.1 hf)
        obtain ⟨E2, hE2⟩ : ∃ E2, E2 = burnE (burn fu) := ⟨_, rfl⟩
        rw [← hE2]
        have HEE := Lib.hid hE2
        clear hE2
        by_cases hE20 : E2 = 0
        · have hT5 : RefAt w5 y (xs ++ frmX (batX X)) ((xs ++ frmX (batX X)).length : Int) ro (burn (burn fu)) o4 := by
            have h := T5
            unfold syncN at h
            rw [if_neg (fun e => by have := HEE.out; rw [hE20, e] at this; cases this)] at h
            exact h
          have HE20 := Lib.hid hE20
          subst hE20
          have X5 := HX.out.1.keep HX.out.2 hK5 (fun g hg e => by rcases e with e | e; exact hg.1 e; exact hg.2 e)
          have hcp : X.puts.n ≤ 20000 := by have := H1.out.2.1.puts; simpa [batX] using this
          have hcd : X.dels.n ≤ 20000 := by have := H1.out.2.1.dels; simpa [batX] using this
          have PC := rcopyb X w5 X5 (by omega) (by omega) (fun i hi => by
            have h := (finePut_iff.1 (H1.out.2.1.fineP (bsK (X.puts.x i).key, (X.puts.x i).val.z) (List.mem_map.2 ⟨i, List.mem_range.2 hi, rfl⟩))).2
            have h2 : (X.puts.x i).val.z.length ≤ 60000 := h
            omega)
          change Calls Tryz.prog 12 #[.agg #[.slice X.puts.a X.puts.n X.puts.c, .slice X.dels.a X.dels.n X.dels.c]] _ _ at PC
          rw [← HP.out.1, ← HP.out.2.1, ← HP.out.2.2.1, ← HP.out.2.2.2.1, ← HP.out.2.2.2.2.1, ← HP.out.2.2.2.2.2] at PC
          have hbb5 := k5.blk HA2.out.2.2.2.1 HA2.out.2.2.2.2
          have hV5o := HA2.out.2.1.keep k5 (fun b hb hf => by
            rcases HA2.out.2.2.1 b hf with h | h
            · exact (HN.out.2.2.2.1 _ h).1 hb.1
            · have := hb.2; omega)
          have PC := Lib.hid PC
          have cj3 := hB5.cell 3
          have cb0 := hbb5.cell 0
          have cb1 := hbb5.cell 1
          have H5 := Lib.hid (And.intro hT5 (And.intro hK5 (And.intro hB5 (And.intro hV5o hbb5))))
          clear hT5 hK5 hB5 hV5o hbb5 hV5 X5 hcp hcd T5 k5 cj0
          go_upto_region 12 with fail
          go_wp2_with fail
          refine PC.out.mono ?_
          rintro e w6 ⟨pq, dq, qn, tn, P, Y, rfl, hPW, hY, hbx, hb6⟩
          have hP := lstW hPW
          clear hPW
          have hB6 := (Keep.of_below (X := fun _ => False) hb6).blk H5.out.2.2.1 (fun h => h)
          have hbx1 : (batX X).puts = P.map pairX := by rw [hbx]
          have hbx2 : (batX X).dels = Y.map bsK := by rw [hbx]
          have hPl : P.length ≤ 20000 := by have h := H1.out.2.1.puts; rw [hbx1, List.length_map] at h; exact h
          have hYl : Y.length ≤ 20000 := by have h := H1.out.2.1.dels; rw [hbx2, List.length_map] at h; exact h
          have PD := rdo x w5.heap.size n (.pointer (some ⟨y, 0, none⟩)) lv (.bool false) L P Y (fun g => N g ∧ g < w.heap.size) pq dq qn tn w6 hB6 (H5.out.2.2.2.1.more hb6) HR.out.2.2.2.2.2.1 (fun b hb => HN.out.2.2.2.2 _ hb.1) HR.out.2.2.2.2.2.2 hP hY hPl hYl H5.out.2.2.1.lt hb6.size
          have PD := Lib.hid PD
          have H6 := Lib.hid (And.intro (H5.out.2.1.trans (Keep.of_below hb6)) (And.intro (ref_keep H5.out.1 (Keep.of_below (X := fun _ => False) hb6) (fun _ _ h => h)) hbx))
          clear hB6 hbx1 hbx2 hPl hYl hP hY hb6 hbx
          go_wp2_with fail
          refine PD.out.mono ?_
          rintro e w7 ⟨rfl, v7, k7, b7, m7⟩
          have hx5 := H5.out.2.2.1.lt
          have h05 := H5.out.2.1.size
          have V7 : KvAt (fun g => (N g ∨ w.heap.size ≤ g) ∧ ¬ foot y o4 g ∧ g ≠ x) w7 v7 (delsR (putsR L P) Y) := m7.mono (fun g hg => by
            rcases hg with hg | hg
            · exact ⟨.inl hg.1, fun hf => by
                rcases HA2.out.2.2.1 g hf with h | h
                · exact (HN.out.2.2.2.1 _ h).1 hg.1
                · have := hg.2; omega, HN.out.2.2.2.2 _ hg.1⟩
            · exact ⟨.inr (by omega), fun hf => by have := ref_lt H5.out.1 _ hf; omega, by omega⟩)
          have T7 := ref_keep H6.out.2.1 k7 (fun k hk e => HA.out.2.2.2.2 k hk e)
          have K7 := H6.out.1.trans (k7.mono fun k e => .inr e)
          have H7 := Lib.hid (And.intro T7 (And.intro V7 (And.intro K7 b7)))
          clear T7 V7 K7 k7 b7 m7 PD cj3 cb0 cb1 hx5 h05
          go_wp2
          go_ret
          exact ⟨H7.out.2.2.1, .inr (.inr ⟨H1.out.2.1, rfl, o4, HA.out.2.2.2.1, .inr (.inr ⟨by rw [← HE.out], by rw [← HEE.out], rfl, delsR (putsR L P) Y, (doR_map L P Y).trans (by rw [← H6.out.2.2]), H7.out.1, v7, H7.out.2.2.2, H7.out.2.1⟩)⟩)⟩
        · have hT5 : RefAt w5 y (xs ++ frmX (batX X)) sy ro (burn (burn fu)) o4 := by
            have h := T5
            unfold syncN at h
            rw [if_pos (by
              have h2 : burnE (burn fu) ≠ 0 := by rw [← HEE.out]; exact hE20
              unfold burnE at h2
              exact Decidable.byContradiction fun hb => h2 (if_neg hb))] at h
            exact h
          have n2 : (E2 != 0) = true := by simpa using hE20
          have b6 : Blk (w5.setCell ⟨x, 3, none⟩ (.bool true)) x #[.pointer (some ⟨y, 0, none⟩), lv, .int .i64 (n : Int), .bool true] 71 := hB5.set 3 _
          have k6 : Keep (fun k => k = x) w5 (w5.setCell ⟨x, 3, none⟩ (.bool true)) := Keep.set (X := fun k => k = x) (Keep.refl _ w5) (p := ⟨x, 3, none⟩) (.inl rfl) _
          have V6 := hV5.keep k6 (fun g hg e => hg.2.2 e)
          have T6 := ref_keep hT5 k6 (fun k hk e => HA.out.2.2.2.2 k hk e)
          have K6 : Keep (fun k => foot y o k ∨ k = x) w (w5.setCell ⟨x, 3, none⟩ (.bool true)) := Keep.trans hK5 (k6.mono fun k e => .inr e)
          have HF := Lib.hid (And.intro T6 (And.intro b6 (And.intro V6 K6)))
          have cj3 := hB5.cell 3
          have fj3 := hB5.free 3
          clear b6 k6 V6 T6 K6
          have HE20 := Lib.hid hE20
          clear hT5 hB5 hV5 hK5 T5 k5
          go_wp2
          go_ret
          exact ⟨HF.out.2.2.2, .inr (.inr ⟨H1.out.2.1, rfl, o4, HA.out.2.2.2.1, .inr (.inl ⟨by rw [← HE.out], by rw [← HEE.out]; exact HE20.out, by rw [← HEE.out]; rfl, HF.out.1, lv, HF.out.2.1, HF.out.2.2.1⟩)⟩)⟩
      · have hT4 : RefAt w4 y xs sy ro (burn fu) o4 := by have h := HA.out.1; rw [appB_bad (by rw [← HE.out]; exact hE0)] at h; exact h
        have n1 : (E1 == 0) = false := by simpa using hE0
        have n2 : (E1 != 0) = true := by simpa using hE0
        have b6 : Blk (w4.setCell ⟨x, 3, none⟩ (.bool true)) x #[.pointer (some ⟨y, 0, none⟩), lv, .int .i64 (n : Int), .bool true] 71 := HA2.out.1.set 3 _
        have k6 : Keep (fun k => k = x) w4 (w4.setCell ⟨x, 3, none⟩ (.bool true)) := Keep.set (X := fun k => k = x) (Keep.refl _ w4) (p := ⟨x, 3, none⟩) (.inl rfl) _
        have V6 := HA.out.2.1.keep k6 (fun g hg e => hg.2.2 e)
        have T6 := ref_keep hT4 k6 (fun k hk e => HA.out.2.2.2.2 k hk e)
        have K6 : Keep (fun k => foot y o k ∨ k = x) w (w4.setCell ⟨x, 3, none⟩ (.bool true)) := Keep.trans HA.out.2.2.1 (k6.mono fun k e => .inr e)
        have HF := Lib.hid (And.intro T6 (And.intro b6 (And.intro V6 K6)))
        have cj3 := HA2.out.1.cell 3
        have fj3 := HA2.out.1.free 3
        clear b6 k6 V6 T6 K6
        have HE0 := Lib.hid hE0
        clear hT4
        go_wp2
        go_ret
        exact ⟨HF.out.2.2.2, .inr (.inr ⟨H1.out.2.1, rfl, o4, HA.out.2.2.2.1, .inl ⟨by rw [← HE.out]; exact HE0.out, by rw [← HE.out]; rfl, HF.out.1, lv, HF.out.2.1, HF.out.2.2.1⟩⟩)⟩
    · go_wp2
      go_ret
      exact ⟨Keep.of_below H1.out.1, .inr (.inl ⟨H1.out.2.1, rfl, rfl, H1.out.1⟩)⟩
  · have HF := Lib.hid (And.intro hb01 hcan)
    clear hb01 hcan hb1
    go_wp2
    go_ret
    exact ⟨Keep.of_below HF.out.1, .inl ⟨HF.out.2, rfl, HF.out.1⟩⟩
end Go.Proofs.YtbjbjgfjaopibaaGreatDoor
end
