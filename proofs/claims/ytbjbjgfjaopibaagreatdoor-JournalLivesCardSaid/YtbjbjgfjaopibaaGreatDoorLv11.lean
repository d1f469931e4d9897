import Derived.Test.YtbjbjgfjaopibaaGreatDoorLv9
import Derived.Test.YtbjbjgfjaopibaaGreatDoorLv10
import Derived.StillTailTactics
import Derived.BigQuiet
section
/- journal.read, walked. -/
namespace Go.Proofs.YtbjbjgfjaopibaaGreatDoor
open Go Go.RowKit
set_option linter.unusedSimpArgs false
set_option linter.unusedVariables false
set_option maxRecDepth 100000

/-- pairs, keys, in memory of their own -/
def pairK : EKind PairD where
  k := 2
  cs := pairCs
  at' := fun P w x => x.key.size ≤ MB ∧ RwOk MB w x.val ∧ ∀ q, x.val.a = some q → P q.block
  len := fun _ => rfl
  one := fun x u hu => by
    simp only [pairCs, List.mem_cons, List.not_mem_nil, or_false] at hu
    rcases hu with rfl | rfl <;> rfl
  keep := fun {P X w w' x} h hk hn => ⟨h.1, ⟨h.2.1.1.keep hk (fun q hq => hn _ (h.2.2 q hq)), h.2.1.2⟩, h.2.2⟩
  mono := fun h hm => ⟨h.1, h.2.1, fun q hq => hm _ (h.2.2 q hq)⟩
def strK : EKind ByteArray where
  k := 1
  cs := strCs
  at' := fun P w s => s.size ≤ MB
  len := fun _ => rfl
  one := fun x u hu => by rw [List.mem_singleton.1 hu]; rfl
  keep := fun h _ _ => h
  mono := fun h _ => h
theorem pairInf : (Tryz.prog.info? 58).map (fun i => (i.zero.map fun z => z.cells.size, i.size, i.bytes)) = some (some 2, 2, 40) := by kernel_rfl
theorem strInf : (Tryz.prog.info? 9).map (fun i => (i.zero.map fun z => z.cells.size, i.size, i.bytes)) = some (some 1, 1, 16) := by kernel_rfl
theorem info_ofJ {P : Program} {e : TypeId} {k by1 : Nat} (h : (P.info? e).map (fun i => (i.zero.map fun z => z.cells.size, i.size, i.bytes)) = some (some k, k, by1)) : ∃ i z, P.info? e = some i ∧ i.zero = some z ∧ i.size = k ∧ i.bytes = by1 ∧ z.cells.size = k := by
  cases hi : P.info? e with
  | none => rw [hi] at h; cases h
  | some i =>
    rw [hi] at h
    have h1 := congrArg (fun o => o.map (·.1)) h
    have h2 := congrArg (fun o => o.map (·.2.1)) h
    have h3 := congrArg (fun o => o.map (·.2.2)) h
    simp only [Option.map_some, Option.some.injEq] at h1 h2 h3
    cases hz : i.zero with
    | none => rw [hz] at h1; cases h1
    | some z =>
      rw [hz] at h1
      simp only [Option.map_some, Option.some.injEq] at h1
      exact ⟨i, z, rfl, hz, h2, h3, h1⟩
/-- what a pair that was read says -/
def pairX (d : PairD) : Key × List Int := (bsK d.key, d.val.z)
/-- a list half read: T is what all of it comes to -/
def RdSt {α : Type} (f : List Int → Option (α × List Int)) (T : Option (List α × List Int)) (L : List α) (m : Nat) (left : List Int) (bad : Bool) : Prop :=
  Byt left ∧ ((bad = false ∧ T = (rdMany f m left).map fun t => (L ++ t.1, t.2)) ∨ (bad = true ∧ T = none))
theorem RdSt.start {α : Type} {f : List Int → Option (α × List Int)} {m : Nat} {left : List Int} (h : Byt left) : RdSt f (rdMany f m left) [] m left false := by
  refine ⟨h, .inl ⟨rfl, ?_⟩⟩
  cases rdMany f m left with
  | none => rfl
  | some t => rfl
theorem RdSt.ok {α : Type} {f : List Int → Option (α × List Int)} {T : Option (List α × List Int)} {L : List α} {m : Nat} {left s : List Int} {a : α} (h : RdSt f T L (m + 1) left false) (hf : f left = some (a, s)) (hs : Byt s) : RdSt f T (L ++ [a]) m s false := by
  refine ⟨hs, .inl ⟨rfl, ?_⟩⟩
  rcases h.2 with ⟨_, h2⟩ | ⟨h1, _⟩
  · rw [h2]
    show (((f left).bind fun q => (rdMany f m q.2).map fun t => (q.1 :: t.1, t.2)).map fun t => (L ++ t.1, t.2)) = _
    rw [hf]
    simp only [Option.bind_some, Option.map_map]
    congr 1
    funext t
    simp
  · cases h1
theorem RdSt.bad {α : Type} {f : List Int → Option (α × List Int)} {T : Option (List α × List Int)} {L L' : List α} {m m' : Nat} {left s : List Int} (h : RdSt f T L (m + 1) left false) (hf : f left = none) (hs : Byt s) : RdSt f T L' m' s true := by
  refine ⟨hs, .inr ⟨rfl, ?_⟩⟩
  rcases h.2 with ⟨_, h2⟩ | ⟨h1, _⟩
  · rw [h2]
    show (((f left).bind fun q => (rdMany f m q.2).map fun t => (q.1 :: t.1, t.2)).map fun t => (L ++ t.1, t.2)) = _
    rw [hf]; rfl
  · cases h1
theorem RdSt.all {α : Type} {f : List Int → Option (α × List Int)} {T : Option (List α × List Int)} {L : List α} {left : List Int} (h : RdSt f T L 0 left false) : T = some (L, left) := by
  rcases h.2 with ⟨_, h2⟩ | ⟨h1, _⟩
  · rw [h2]; show some (L ++ [], left) = _; rw [List.append_nil]
  · cases h1
theorem RdSt.none {α : Type} {f : List Int → Option (α × List Int)} {T : Option (List α × List Int)} {L : List α} {m : Nat} {left : List Int} (h : RdSt f T L m left true) : T = none := by
  rcases h.2 with ⟨h1, _⟩ | ⟨_, h2⟩
  · cases h1
  · exact h2
/-- what 'read' answers -/
def ReadPost (bs : List Int) (w : World) (e : Ending) (w' : World) : Prop := Below w.heap.size w w' ∧
  ∃ (pq dq : Option Addr) (pl pn dl dn : Nat), ((rdBat bs = none ∧ e = .returned (.tuple #[.agg #[.slice pq pl pn, .slice dq dl dn], .bool false])) ∨
    ∃ X : List PairD, ∃ Y : List ByteArray, rdBat bs = some ⟨X.map pairX, Y.map bsK⟩ ∧ e = .returned (.tuple #[.agg #[.slice pq pl pn, .slice dq dl dn], .bool true]) ∧ (X.length ≤ 20000 ∧ pl = X.length) ∧ (Y.length ≤ 20000 ∧ dl = Y.length) ∧
      LstAt pairK 58 w' w.heap.size (.slice pq pl pn) X ∧ LstAt strK 9 w' w.heap.size (.slice dq dl dn) Y)
/-- where the three things of 'read' lie: what is returned, the batch, the reader -/
def Away (g : Nat) (o : Option Nat) (b : Nat) : Prop := b ≠ g ∧ b ≠ g + 1 ∧ b ≠ g + 2 ∧ o ≠ some b
def ReadAt (w0 wx : World) (g : Nat) (o : Option Nat) (pv dv : Value) (left : List Int) (bad : Bool) : Prop :=
  (∃ a b : Value, Blk wx g #[a, b] 41) ∧ Blk wx (g + 1) #[pv, dv] 41 ∧ RdP (Away g o) wx (g + 2) left bad ∧ Below g w0 wx ∧ w0.heap.size = g
theorem rdBat_two {bs left : List Int} {L : List (Key × List Int)} (h : rdBat bs = (rdCnt left).bind fun d => (rdMany rdKey d.1 d.2).bind fun k => if k.2 = [] then some ⟨L, k.1⟩ else none) :
    (rdCnt left = none → rdBat bs = none) ∧ (∀ n s, rdCnt left = some (n, s) → (rdMany rdKey n s = none → rdBat bs = none) ∧ ∀ D r, rdMany rdKey n s = some (D, r) → rdBat bs = if r = [] then some ⟨L, D⟩ else none) := by
  refine ⟨fun h1 => by rw [h, h1]; rfl, fun n s h1 => ⟨fun h2 => ?_, fun D r h2 => ?_⟩⟩
  · rw [h, h1]; simp only [Option.bind_some]; rw [h2]; rfl
  · rw [h, h1]; simp only [Option.bind_some]; rw [h2]; rfl
theorem blks3 (w : World) (c1 c2 c3 : Array Value) (t1 t2 t3 : TypeId) : Blk (((w.alloc (.cells c1 t1)).alloc (.cells c2 t2)).alloc (.cells c3 t3)) w.heap.size c1 t1 ∧ Blk (((w.alloc (.cells c1 t1)).alloc (.cells c2 t2)).alloc (.cells c3 t3)) (w.heap.size + 1) c2 t2 ∧ Blk (((w.alloc (.cells c1 t1)).alloc (.cells c2 t2)).alloc (.cells c3 t3)) (w.heap.size + 2) c3 t3 ∧ Below w.heap.size w (((w.alloc (.cells c1 t1)).alloc (.cells c2 t2)).alloc (.cells c3 t3)) := by
  obtain ⟨b1, b2, b3⟩ := And.intro (Blk.w3_0 w c1 t1 (.cells c2 t2) (.cells c3 t3)) (And.intro (Blk.w3_1 w c2 t2 (.cells c1 t1) (.cells c3 t3)) (Blk.w3_2 w c3 t3 (.cells c1 t1) (.cells c2 t2)))
  exact ⟨b1, b2, b3, (((Below.refl w.heap.size w).alloc (Nat.le_refl _) _).alloc (by simp) _).alloc (by simp; omega) _⟩
theorem rdBat_cnt {bs : List Int} {n : Nat} {s : List Int} (h : rdCnt bs = some (n, s)) : rdBat bs = (rdMany rdPut n s).bind fun p => (rdCnt p.2).bind fun d => (rdMany rdKey d.1 d.2).bind fun k => if k.2 = [] then some ⟨p.1, k.1⟩ else none := by
  unfold rdBat; rw [h]; rfl
theorem rdBat_none {bs : List Int} (h : rdCnt bs = none) : rdBat bs = none := by unfold rdBat; rw [h]; rfl
theorem rdPut_none {left s : List Int} {k : Key} (h : rdKey left = some (k, s)) (h2 : rtE s 60000 ≠ 0) : rdPut left = none := by unfold rdPut; rw [h]; simp only [Option.bind_some]; rw [if_neg h2]
theorem rdPut_some {left s : List Int} {k : Key} (h : rdKey left = some (k, s)) (h2 : rtE s 60000 = 0) : rdPut left = some ((k, rtX s), rtR s) := by unfold rdPut; rw [h]; simp only [Option.bind_some]; rw [if_pos h2]
theorem rdPut_nokey {left : List Int} (h : rdKey left = none) : rdPut left = none := by unfold rdPut; rw [h]; rfl
theorem rdKey_byt {left s : List Int} {k : Key} (hb : Byt left) (h : rdKey left = some (k, s)) : Byt s := by
  obtain ⟨_, e⟩ := (rdKey_iff hb k s).1 h
  rw [e] at hb; exact hb.right
theorem rdCnt_byt {left s : List Int} {n : Nat} (hb : Byt left) (h : rdCnt left = some (n, s)) : Byt s := by
  obtain ⟨_, e⟩ := (rdCnt_iff hb n s).1 h
  rw [e] at hb; exact hb.right
set_option maxHeartbeats 12800000 in
theorem pread (bs : List Int) (q : Option Addr) (c : Nat) (w : World) (hy : Lib.BytesIn w q bs.length bs) (hb : Byt bs) (hc : bs.length ≤ c) (hcm : c ≤ 9223372036854775807) (hl : bs.length ≤ 140737488351232) :
    Calls Tryz.prog 35 #[.slice q bs.length c] w (ReadPost bs w) := by
  obtain ⟨B1, B2, B3, K3⟩ := blks3 w #[.slice none 0 0, .slice none 0 0] #[.slice none 0 0, .slice none 0 0] #[.slice q bs.length c, .bool false] 41 41 94
  have hs3 : (((w.alloc (.cells #[.slice none 0 0, .slice none 0 0] 41)).alloc (.cells #[.slice none 0 0, .slice none 0 0] 41)).alloc (.cells #[.slice q bs.length c, .bool false] 94)).heap.size = w.heap.size + 3 := by simp
  have hrd : RdP (Away w.heap.size none) (((w.alloc (.cells #[.slice none 0 0, .slice none 0 0] 41)).alloc (.cells #[.slice none 0 0, .slice none 0 0] 41)).alloc (.cells #[.slice q bs.length c, .bool false] 94)) (w.heap.size + 2) bs false :=
    ⟨q, c, B3, bytes_keep hy (Keep.of_below (X := fun _ => False) K3) (fun _ _ _ h => h), hc, ⟨hcm, hl⟩, fun h0 a ha => by have := bytes_lt hy h0 a ha; exact ⟨by omega, by omega, by omega, fun e => by cases e⟩⟩
  have HA := Lib.hid (And.intro (And.intro (Exists.intro _ (Exists.intro _ B1)) (And.intro B2 (And.intro hrd (And.intro K3 rfl))) : ReadAt w _ w.heap.size none (.slice none 0 0) (.slice none 0 0) bs false) hs3)
  have HBS := Lib.hid hb
  clear B1 B2 B3 K3 hs3 hrd hy hb hc hcm hl
  generalize bs.length = bl at *
  go_enter Tryz.func35, Tryz.ntmps35
  go_upto_region 3 with fail
  generalize ((w.alloc (.cells #[.slice none 0 0, .slice none 0 0] 41)).alloc (.cells #[.slice none 0 0, .slice none 0 0] 41)).alloc (.cells #[.slice q bl c, .bool false] 94) = w3 at *
  generalize hgw : w.heap.size = g at *
  have PC := Lib.hid (pcount (g + 2) bs false w3 (HA.out.1.2.2.1.mono (fun b h _ => h.2.2.1)) HBS.out)
  go_wp2_with fail
  refine PC.out.mono ?_
  rintro e w4 ⟨k4, hcase⟩
  have hst : ∃ (n0 : Nat) (left0 : List Int) (bad0 : Bool) (T : Option (List (Key × List Int) × List Int)), e = .returned (.int .i64 (n0 : Int)) ∧ n0 ≤ 20000 ∧ RdP (fun b => w3.heap.size ≤ b) w4 (g + 2) left0 bad0 ∧ RdSt rdPut T [] n0 left0 bad0 ∧ (T = none → rdBat bs = none) ∧ (∀ L s, T = some (L, s) → rdBat bs = (rdCnt s).bind fun d => (rdMany rdKey d.1 d.2).bind fun k => if k.2 = [] then some ⟨L, k.1⟩ else none) := by
    rcases hcase with ⟨n, s, h1, h2, h3, h4⟩ | ⟨h1, h2, s, h3, h4⟩
    · refine ⟨n, s, false, rdMany rdPut n s, h2, h4, h3, RdSt.start (rdCnt_byt HBS.out h1), fun h => ?_, fun L s' h => ?_⟩
      · rw [rdBat_cnt h1, h]; rfl
      · rw [rdBat_cnt h1, h]; rfl
    · exact ⟨0, s, true, none, h2, by decide, h3, ⟨h4, .inr ⟨rfl, rfl⟩⟩, fun _ => rdBat_none h1, fun L s' h => by cases h⟩
  clear hcase
  obtain ⟨n0, left0, bad0, T, rfl, hn0, hr4, hs4, hT⟩ := hst
  have b2 := k4.blk HA.out.1.2.1 (by omega)
  have b1 : ∃ a b : Value, Blk w4 g #[a, b] 41 := by
    obtain ⟨a, b, h⟩ := HA.out.1.1
    exact ⟨a, b, k4.blk h (by omega)⟩
  have hsz4 := k4.size
  have hb4 : Below g w w4 := HA.out.1.2.2.2.1.trans (k4.below (by have := HA.out.2; omega) (fun k hk => by omega))
  have H4 := Lib.hid (And.intro (And.intro b1 (And.intro b2 (And.intro (hr4.mono (fun b h _ => ⟨by have := HA.out.2; omega, by have := HA.out.2; omega, by have := HA.out.2; omega, fun e => by cases e⟩)) (And.intro hb4 hgw))) : ReadAt w w4 g none _ _ left0 bad0) (And.intro hs4 (by have := HA.out.2; omega : g + 3 ≤ w4.heap.size)))
  have HT := Lib.hid hT
  clear b1 b2 hsz4 hb4 hr4 hs4 hT k4
  go_wp2
  go_loopg [6] n0 (fun gh v wx => ∃ (m : Nat) (X : List PairD) (o : Option Nat) (pv : Value) (left : List Int) (bad : Bool), v = .int .i64 (m : Int) ∧ gh = m ∧ m ≤ n0 ∧ Hid (ReadAt w wx g o pv (.slice none 0 0) left bad ∧ LstO pairK 58 wx (g + 3) o pv X ∧ RdSt rdPut T (X.map pairX) m left bad ∧ X.length + m = n0 ∧ g + 3 ≤ wx.heap.size))
  case atStart => exact ⟨n0, [], none, _, left0, bad0, rfl, rfl, Nat.le_refl _, H4.out.1, LstO.nil _ _ _ _, H4.out.2.1, by simp, H4.out.2.2⟩
  case round =>
    obtain ⟨m, X, o, pv, left, bad, rfl, hg, hm, HK⟩ := hrel
    have HG := Lib.hid hg
    clear hg
    obtain ⟨pr, cr, br, hyr, hlr, ⟨hcr, hllr⟩, hnr⟩ := HK.out.1.2.2.1
    have cb : wr.cell? ⟨g + 2, 1, none⟩ = some (.bool bad) := br.cell 1
    have HR := Lib.hid br
    clear br hyr hlr hcr hnr
    cases bad
    · rcases Nat.eq_zero_or_pos m with rfl | hm0
      · have hpv : ∃ pq pn, pv = .slice pq X.length pn := by
          obtain ⟨pq, pn, e, _⟩ := HK.out.2.1.1.form
          exact ⟨pq, pn, e⟩
        have HPV := Lib.hid hpv
        clear hpv
        have hB := rdBat_two (HT.out.2 _ _ HK.out.2.2.1.all)
        have HB := Lib.hid hB
        have PC2 := Lib.hid (pcount (g + 2) left false wr (HK.out.1.2.2.1.mono (fun b h _ => h.2.2.1)) HK.out.2.2.1.1)
        obtain ⟨w1, hw1⟩ : ∃ w1, w1 = wr := ⟨_, rfl⟩
        subst hw1
        clear hB
        go_wp2_with fail
        refine PC2.out.mono ?_
        rintro e w4' ⟨k4, hcase⟩
        have hst : ∃ (n1 : Nat) (left1 : List Int) (bad1 : Bool) (T2 : Option (List Key × List Int)), e = .returned (.int .i64 (n1 : Int)) ∧ n1 ≤ 20000 ∧ RdP (fun b => w1.heap.size ≤ b) w4' (g + 2) left1 bad1 ∧ RdSt rdKey T2 [] n1 left1 bad1 ∧ (T2 = none → rdBat bs = none) ∧ (∀ D s, T2 = some (D, s) → rdBat bs = if s = [] then some ⟨X.map pairX, D⟩ else none) := by
          rcases hcase with ⟨n, s, h1, h2, h3, h4⟩ | ⟨h1, h2, s, h3, h4⟩
          · exact ⟨n, s, false, rdMany rdKey n s, h2, h4, h3, RdSt.start (rdCnt_byt HK.out.2.2.1.1 h1), (HB.out.2 n s h1).1, (HB.out.2 n s h1).2⟩
          · exact ⟨0, s, true, none, h2, by decide, h3, ⟨h4, .inr ⟨rfl, rfl⟩⟩, fun _ => HB.out.1 h1, fun D s' h => by cases h⟩
        clear hcase
        obtain ⟨n1, left1, bad1, T2, rfl, hn1, hr4, hs4, hT2⟩ := hst
        have HT2 := Lib.hid hT2
        have b2 := k4.blk HK.out.1.2.1 (by omega)
        have b1 : ∃ a b : Value, Blk w4' g #[a, b] 41 := by
          obtain ⟨a, b, h⟩ := HK.out.1.1
          exact ⟨a, b, k4.blk h (by omega)⟩
        have hsz4 := k4.size
        have hb4 : Below g w w4' := HK.out.1.2.2.2.1.trans (k4.below (by have := HK.out.2.2.2.2; omega) (fun k hk => by omega))
        have kx4 : Keep (fun k => k = g ∨ k = g + 1 ∨ k = g + 2) w1 w4' := k4.mono (fun k hk => .inr (.inr hk))
        have hg3 : g + 3 ≤ w1.heap.size := HK.out.2.2.2.2
        have H9 := Lib.hid (And.intro (And.intro b1 (And.intro b2 (And.intro (hr4.mono (fun b h _ => ⟨by omega, by omega, by omega, fun e => by cases e⟩)) (And.intro hb4 hgw))) : ReadAt w w4' g none pv (.slice none 0 0) left1 bad1) (And.intro hs4 (And.intro kx4 hsz4)))
        have HG3 := Lib.hid hg3
        clear b1 b2 hsz4 hb4 hr4 hs4 hT2 k4 kx4 hg3 cb
        go_wp2
        go_loopg [8] n1 (fun gh v wx => ∃ (m : Nat) (Y : List ByteArray) (od : Option Nat) (dv : Value) (lf : List Int) (bd : Bool), v = .int .i64 (m : Int) ∧ gh = m ∧ m ≤ n1 ∧ Hid (ReadAt w wx g od pv dv lf bd ∧ LstO strK 9 wx w1.heap.size od dv Y ∧ RdSt rdKey T2 (Y.map bsK) m lf bd ∧ Y.length + m = n1 ∧ Keep (fun k => k = g ∨ k = g + 1 ∨ k = g + 2) w1 wx))
        case atStart => exact ⟨n1, [], none, _, left1, bad1, rfl, rfl, Nat.le_refl _, H9.out.1, LstO.nil _ _ _ _, H9.out.2.1, by simp, H9.out.2.2.1⟩
        case round =>
          obtain ⟨m, Y, od, dv, lf, bd, rfl, hg, hm, HJ⟩ := hrel
          have HG2 := Lib.hid hg
          clear hg
          obtain ⟨pr2, cr2, br2, hyr2, hlr2, ⟨hcr2, hllr2⟩, hnr2⟩ := HJ.out.1.2.2.1
          have cb : wr.cell? ⟨g + 2, 1, none⟩ = some (.bool bd) := br2.cell 1
          have HR2 := Lib.hid br2
          obtain ⟨a0, a1, bR⟩ := HJ.out.1.1
          have bX := HJ.out.1.2.1
          have HBR := Lib.hid (And.intro bR bX)
          clear br2 hyr2 hlr2 hcr2 hnr2 bR bX
          have hlf : lf = [] ↔ (lf.length : Int) = 0 := by cases lf <;> simp; omega
          obtain ⟨pq, pn, rfl⟩ := HPV.out
          obtain ⟨dq, dn, rfl, _⟩ := HJ.out.2.1.1.form
          have hEnd : (bd = true → rdBat bs = none) ∧ (bd = false → m = 0 → rdBat bs = if lf = [] then some ⟨X.map pairX, Y.map bsK⟩ else none) :=
            ⟨fun e => by subst e; exact HT2.out.1 HJ.out.2.2.1.none, fun e e2 => by subst e; subst e2; exact HT2.out.2 _ _ HJ.out.2.2.1.all⟩
          have bf : Blk ((wr.drew.setCell ⟨g, 0, none⟩ (.slice pq X.length pn)).setCell ⟨g, 1, none⟩ (.slice dq Y.length dn)) g #[.slice pq X.length pn, .slice dq Y.length dn] 41 := ((show Blk wr.drew g _ _ from HBR.out.1).set 0 _).set 1 _
          have hbf : Below w.heap.size w ((wr.drew.setCell ⟨g, 0, none⟩ (.slice pq X.length pn)).setCell ⟨g, 1, none⟩ (.slice dq Y.length dn)) := by
            rw [hgw]; exact (HJ.out.1.2.2.2.1.drew.setCell (p := ⟨g, 0, none⟩) (Nat.le_refl _) _).setCell (p := ⟨g, 1, none⟩) (Nat.le_refl _) _
          have kf : Keep (fun k => k = g) wr.drew ((wr.drew.setCell ⟨g, 0, none⟩ (.slice pq X.length pn)).setCell ⟨g, 1, none⟩ (.slice dq Y.length dn)) := Keep.set (X := fun k => k = g) (Keep.set (X := fun k => k = g) (Keep.refl _ wr.drew) (p := ⟨g, 0, none⟩) (.inl rfl) _) (p := ⟨g, 1, none⟩) (.inl rfl) _
          have lx : LstAt pairK 58 ((wr.drew.setCell ⟨g, 0, none⟩ (.slice pq X.length pn)).setCell ⟨g, 1, none⟩ (.slice dq Y.length dn)) w.heap.size (.slice pq X.length pn) X :=
            ((((HK.out.2.1.keep HJ.out.2.2.2.2 (fun b h1 h2 e => by omega)).keep (Y := fun _ => False) ((Keep.refl _ wr).drew) (fun _ _ _ h => h)).keep kf (fun b h1 h2 e => by omega)).base (by omega)).lst
          have ly : LstAt strK 9 ((wr.drew.setCell ⟨g, 0, none⟩ (.slice pq X.length pn)).setCell ⟨g, 1, none⟩ (.slice dq Y.length dn)) w.heap.size (.slice dq Y.length dn) Y :=
            (((HJ.out.2.1.keep (Y := fun _ => False) ((Keep.refl _ wr).drew) (fun _ _ _ h => h)).keep kf (fun b h1 h2 e => by have := HG3.out; omega)).base (by have := HG3.out; omega)).lst
          have hxl : X.length ≤ 20000 := by have := HK.out.2.2.2.1; omega
          have hyl : Y.length ≤ 20000 := by have := HJ.out.2.2.2.1; omega
          have HFIN := Lib.hid (And.intro lx (And.intro ly (And.intro hxl hyl)))
          have HBF := Lib.hid (And.intro bf hbf)
          have HKF := Lib.hid kf
          have HLF := Lib.hid hlf
          have HEND := Lib.hid hEnd
          have cx0 : wr.drew.cell? ⟨g + 1, 0, none⟩ = some (.slice pq X.length pn) := HBR.out.2.cell 0
          have cx1 : wr.drew.cell? ⟨g + 1, 1, none⟩ = some (.slice dq Y.length dn) := HBR.out.2.cell 1
          have cd0 : wr.drew.cell? ⟨g + 2, 0, none⟩ = some (.slice pr2 lf.length cr2) := HR2.out.cell 0
          have HCX := Lib.hid (And.intro cx0 (And.intro cx1 (And.intro cd0 trivial)))
          have HL2 := Lib.hid (show g + 1 < wr.drew.heap.size ∧ g + 2 < wr.drew.heap.size from ⟨HBR.out.2.lt, HR2.out.lt⟩)
          have HBR' := HBR
          clear bf hbf kf lx ly hxl hyl hlf hEnd cx0 cx1 cd0
          cases bd
          · rcases Nat.eq_zero_or_pos m with rfl | hm0
            · have hend := HEND.out.2 rfl rfl
              have HENDF := Lib.hid hend
              clear hend
              have cD1 : wr.drew.cell? ⟨g + 2, 1, none⟩ = some (.bool false) := HR2.out.cell 1
              have cR0 := HBR.out.1.cell 0
              have cR1 := HBR.out.1.cell 1
              have fR := HBR.out.1.free
              generalize hxl : X.length = xl at *
              generalize hyl : Y.length = yl at *
              have HXYL := Lib.hid (And.intro hxl hyl)
              clear hxl hyl
              generalize lf.length = ll at *
              go_upto_region 14 with fail
              refine wp_region_held_drew (S := fun w' => w'.cell? ⟨g + 1, 0, none⟩ = some (.slice pq xl pn) ∧ w'.cell? ⟨g + 1, 1, none⟩ = some (.slice dq yl dn) ∧ w'.cell? ⟨g + 2, 0, none⟩ = some (.slice pr2 ll cr2) ∧ w'.cell? ⟨g + 2, 1, none⟩ = some (.bool false)) (by kernel_rfl) ⟨HCX.out.1, HCX.out.2.1, HCX.out.2.2.1, cD1⟩ (fun hS => ?_)
              refine tkH 0 (v := ?_) rfl (by kernel_rfl) ⟨by rfl, ?_⟩ hS ?_
              rotate_left
              · intro w0 hs; obtain ⟨s1, s2, s3, s4⟩ := hs; go_simp; try (with_reducible rfl)
              try simp only [Act.put, List.setIfInBounds_toArray, List.set_cons_zero, List.set_cons_succ]
              refine tkH 1 (v := ?_) rfl (by kernel_rfl) ⟨by rfl, ?_⟩ hS ?_
              rotate_left
              · intro w0 hs; obtain ⟨s1, s2, s3, s4⟩ := hs; go_simp; try (with_reducible rfl)
              try simp only [Act.put, List.setIfInBounds_toArray, List.set_cons_zero, List.set_cons_succ]
              refine tkH 2 (v := ?_) rfl (by kernel_rfl) ⟨by rfl, ?_⟩ hS ?_
              rotate_left
              · intro w0 hs; obtain ⟨s1, s2, s3, s4⟩ := hs; go_simp; try (with_reducible rfl)
              try simp only [Act.put, List.setIfInBounds_toArray, List.set_cons_zero, List.set_cons_succ]
              refine tkH 3 (v := ?_) rfl (by kernel_rfl) ⟨by rfl, ?_⟩ hS ?_
              rotate_left
              · intro w0 hs; obtain ⟨s1, s2, s3, s4⟩ := hs; go_simp; try (with_reducible rfl)
              try simp only [Act.put, List.setIfInBounds_toArray, List.set_cons_zero, List.set_cons_succ]
              refine tkH 4 (v := ?_) rfl (by kernel_rfl) ⟨by rfl, ?_⟩ hS ?_
              rotate_left
              · intro w0 hs; obtain ⟨s1, s2, s3, s4⟩ := hs; go_simp; try (with_reducible rfl)
              try simp only [Act.put, List.setIfInBounds_toArray, List.set_cons_zero, List.set_cons_succ]
              refine tkH 5 (v := ?_) rfl (by kernel_rfl) ⟨by rfl, ?_⟩ hS ?_
              rotate_left
              · intro w0 hs; obtain ⟨s1, s2, s3, s4⟩ := hs; go_simp; try (with_reducible rfl)
              try simp only [Act.put, List.setIfInBounds_toArray, List.set_cons_zero, List.set_cons_succ]
              refine tkH 6 (v := ?_) rfl (by kernel_rfl) ⟨by rfl, ?_⟩ hS ?_
              rotate_left
              · intro w0 hs; obtain ⟨s1, s2, s3, s4⟩ := hs; go_simp; try (with_reducible rfl)
              try simp only [Act.put, List.setIfInBounds_toArray, List.set_cons_zero, List.set_cons_succ]
              refine tkH 7 (v := ?_) rfl (by kernel_rfl) ⟨by rfl, ?_⟩ hS ?_
              rotate_left
              · intro w0 hs; obtain ⟨s1, s2, s3, s4⟩ := hs; go_simp; try (with_reducible rfl)
              try simp only [Act.put, List.setIfInBounds_toArray, List.set_cons_zero, List.set_cons_succ]
              refine tkH 8 (v := ?_) rfl (by kernel_rfl) ⟨by rfl, ?_⟩ hS ?_
              rotate_left
              · intro w0 hs; obtain ⟨s1, s2, s3, s4⟩ := hs; go_simp; try (with_reducible rfl)
              try simp only [Act.put, List.setIfInBounds_toArray, List.set_cons_zero, List.set_cons_succ]
              refine tkH 9 (v := ?_) rfl (by kernel_rfl) ⟨by rfl, ?_⟩ hS ?_
              rotate_left
              · intro w0 hs; obtain ⟨s1, s2, s3, s4⟩ := hs; go_simp; try (with_reducible rfl)
              try simp only [Act.put, List.setIfInBounds_toArray, List.set_cons_zero, List.set_cons_succ]
              refine tkH 10 (v := ?_) rfl (by kernel_rfl) ⟨by rfl, ?_⟩ hS ?_
              rotate_left
              · intro w0 hs; obtain ⟨s1, s2, s3, s4⟩ := hs; go_simp; try (with_reducible rfl)
              try simp only [Act.put, List.setIfInBounds_toArray, List.set_cons_zero, List.set_cons_succ]
              refine tkH 11 (v := ?_) rfl (by kernel_rfl) ⟨by rfl, ?_⟩ hS ?_
              rotate_left
              · intro w0 hs; obtain ⟨s1, s2, s3, s4⟩ := hs; go_simp; try (with_reducible rfl)
              try simp only [Act.put, List.setIfInBounds_toArray, List.set_cons_zero, List.set_cons_succ]
              refine tkH 12 (v := ?_) rfl (by kernel_rfl) ⟨by rfl, ?_⟩ hS ?_
              rotate_left
              · intro w0 hs; obtain ⟨s1, s2, s3, s4⟩ := hs; go_simp; try (with_reducible rfl)
              try simp only [Act.put, List.setIfInBounds_toArray, List.set_cons_zero, List.set_cons_succ]
              refine tkH 13 (v := ?_) rfl (by kernel_rfl) ⟨by rfl, ?_⟩ hS ?_
              rotate_left
              · intro w0 hs; obtain ⟨s1, s2, s3, s4⟩ := hs; go_simp; try (with_reducible rfl)
              try simp only [Act.put, List.setIfInBounds_toArray, List.set_cons_zero, List.set_cons_succ]
              refine wpAnyH_ready (rs := [14]) (by kernel_rfl) (by simp) ?_
              refine AllReadyH.cons (o := ⟨_, _, _, _, _, _⟩) rfl (fun K hK => ?_) AllReadyH.nil
              rw [if_pos (by rfl)]
              go_simp
              refine hK.out _ _ ⟨(HKF.out.cell (p := ⟨g + 1, 0, none⟩) HL2.out.1 (by show ¬ g + 1 = g; omega)).trans hS.1, (HKF.out.cell (p := ⟨g + 1, 1, none⟩) HL2.out.1 (by show ¬ g + 1 = g; omega)).trans hS.2.1, (HKF.out.cell (p := ⟨g + 2, 0, none⟩) HL2.out.2 (by show ¬ g + 2 = g; omega)).trans hS.2.2.1, (HKF.out.cell (p := ⟨g + 2, 1, none⟩) HL2.out.2 (by show ¬ g + 2 = g; omega)).trans hS.2.2.2⟩ (fun hS' => ?_)
              clear hS hK
              have hS := hS'; clear hS'
              try simp only [Act.put, List.setIfInBounds_toArray, List.set_cons_zero, List.set_cons_succ]
              refine tkH 15 (v := ?_) rfl (by kernel_rfl) ⟨by rfl, ?_⟩ hS ?_
              rotate_left
              · intro w0 hs; obtain ⟨s1, s2, s3, s4⟩ := hs; go_simp; try (with_reducible rfl)
              try simp only [Act.put, List.setIfInBounds_toArray, List.set_cons_zero, List.set_cons_succ]
              refine wpAnyH_done (by kernel_rfl) ?_ _
              go_wp2
              refine bodyPost_ret (results_cell_tmp Tryz.results35 _ _ g 41 #[.slice pq xl pn, .slice dq yl dn] (0,0) _ rfl HBF.out.1 Tryz.underlying41 rfl (by kernel_rfl)) rfl ⟨HBF.out.2, pq, dq, xl, pn, yl, dn, ?_⟩
              by_cases h0 : lf = []
              · have e := HLF.out.1 h0
                right
                refine ⟨X, Y, by rw [HENDF.out, if_pos h0], ?_, ⟨by rw [HXYL.out.1]; exact HFIN.out.2.2.1, HXYL.out.1.symm⟩, ⟨by rw [HXYL.out.2]; exact HFIN.out.2.2.2, HXYL.out.2.symm⟩, HFIN.out.1, HFIN.out.2.1⟩
                show Ending.returned (.tuple #[_, .bool ((ll : Int) == 0)]) = _
                rw [e]; rfl
              · have e : ((ll : Int) == 0) = false := by simpa using fun h => h0 (HLF.out.2 h)
                left
                refine ⟨by rw [HENDF.out, if_neg h0], ?_⟩
                show Ending.returned (.tuple #[_, .bool ((ll : Int) == 0)]) = _
                rw [e]
            · obtain ⟨m', rfl⟩ : ∃ m', m = m' + 1 := ⟨m - 1, by omega⟩
              have PK := Lib.hid (prkey (g + 2) lf false wr.drew ((HJ.out.1.2.2.1.mono (Q := fun b => b ≠ g + 2) (fun b h _ => h.2.2.1)).keep (X := fun _ => False) ((Keep.refl _ wr).drew) (fun h => h) (fun _ _ _ h => h)) HJ.out.2.2.1.1)
              have cX : wr.drew.cell? ⟨g + 1, 1, none⟩ = some (.slice dq Y.length dn) := HCX.out.2.1
              obtain ⟨yn, hyn⟩ : ∃ yn, yn = Y.length := ⟨_, rfl⟩
              rw [← hyn] at cX
              have HYN := Lib.hid hyn
              clear hyn
              go_upto_region 13 with fail
              refine wp_region_last 7 (fun w' => w'.cell? ⟨g + 1, 1, none⟩ = some (.slice dq yn dn)) (by kernel_rfl) cX (fun hS => ?_)
              refine tkL 0 (v := ?_) rfl (by kernel_rfl) ⟨by rfl, ?_⟩ hS ?_
              rotate_left
              · intro w0 hs; skip; go_simp; try (with_reducible rfl)
              try simp only [Act.put, List.setIfInBounds_toArray, List.set_cons_zero, List.set_cons_succ]
              refine tkL 1 (v := ?_) rfl (by kernel_rfl) ⟨by rfl, ?_⟩ hS ?_
              rotate_left
              · intro w0 hs; skip; go_simp; try (with_reducible rfl)
              try simp only [Act.put, List.setIfInBounds_toArray, List.set_cons_zero, List.set_cons_succ]
              refine tkL 2 (v := ?_) rfl (by kernel_rfl) ⟨by rfl, ?_⟩ hS ?_
              rotate_left
              · intro w0 hs; skip; go_simp; try (with_reducible rfl)
              try simp only [Act.put, List.setIfInBounds_toArray, List.set_cons_zero, List.set_cons_succ]
              refine wpAnyL_one (i := 3) (oi := ⟨_, _, _, _, _, _⟩) rfl (by kernel_rfl) (fun K hK => ?_)
              rw [if_pos (by rfl)]
              go_step
              refine PK.out.mono ?_
              rintro e w6 ⟨k6, ks, rfl, hkl, hkcase⟩
              simp only []
              have hS' := ((k6.cell (p := ⟨g + 1, 1, none⟩) HL2.out.1 (by show ¬ g + 1 = g + 2; omega)).trans hS)
              refine hK.out _ _ (.inr hS') ?_
              clear hS hK
              have hS := hS'; clear hS'
              try simp only [Act.put, List.setIfInBounds_toArray, List.set_cons_zero, List.set_cons_succ]
              refine wpAnyL_one (i := 4) (oi := ⟨_, _, _, _, _, _⟩) rfl (by kernel_rfl) (fun K hK => ?_)
              rw [if_pos (by rfl)]
              go_simp
              have hc6 := hS
              have hS' := ((((Keep.refl (fun _ => False) w6).alloc (.cells #[.string (sK ks)] 9)).cell (p := ⟨g + 1, 1, none⟩) (cell_lt hS) (fun h => h)).trans hS)
              refine hK.out _ _ (.inr hS') ?_
              clear hS hK
              have hS := hS'; clear hS'
              try simp only [Act.put, List.setIfInBounds_toArray, List.set_cons_zero, List.set_cons_succ]
              refine wpAnyL_one (i := 5) (oi := ⟨_, _, _, _, _, _⟩) rfl (by kernel_rfl) (fun K hK => ?_)
              rw [if_pos (by rfl)]
              obtain ⟨i1, z1, f1, f2, f3, f4, f5⟩ := info_ofJ strInf
              have L6 : LstO strK 9 w6 w1.heap.size od (.slice dq Y.length dn) Y := (HJ.out.2.1.keep (Y := fun _ => False) ((Keep.refl _ wr).drew) (fun _ _ _ h => h)).keep k6 (fun b h1 h2 e => by have := HG3.out; omega)
              have hg6 : w1.heap.size ≤ w6.heap.size := by have := HJ.out.2.2.2.2.size; have := k6.size; have hd0 : wr.drew.heap.size = wr.heap.size := rfl; omega
              have hx6 : strK.at' (fun b => w1.heap.size ≤ b ∧ b < w6.heap.size ∧ od ≠ some b) w6 (sK ks) := by show ks.toArray.size ≤ 140737488351232; simp; omega
              have hYL : Y.length ≤ 20000 := HFIN.out.2.2.2
              obtain ⟨q8, n8, v7, w7, o7, hv8, run7, L7, k7, ho7⟩ := L6.add 39 Tryz.underlying39 f1 f2 f3 f4 f5 (by decide) hg6 hx6 (by unfold maxLen; omega) (by omega)
              cases hv8
              change (Builtin.append_ #[39, 39] 39 #[.slice dq Y.length dn, .slice (some ⟨w6.heap.size, 0, none⟩) 1 1]).run Tryz.prog (w6.alloc (.cells #[.string (sK ks)] 9)) = .ok v7 w7 at run7
              rw [← HYN.out] at run7
              obtain ⟨q7, n7, hv7, _⟩ := L7.1.form
              obtain ⟨l7, hl7⟩ : ∃ l7, l7 = (Y ++ [sK ks]).length := ⟨_, rfl⟩
              rw [← hl7] at hv7
              subst hv7
              have HL7 := Lib.hid hl7
              clear hl7
              refine wp_appI _ _ 39 rfl rfl rfl run7 ?_
              have hS' := ((k7.cell (p := ⟨g + 1, 1, none⟩) (cell_lt hc6) (fun e => by have := L6.2.1 _ e; have := HG3.out; simp only at *; omega)).trans hc6)
              refine hK.out _ _ (.inr hS') ?_
              clear hS hK
              have hS := hS'; clear hS'
              try simp only [Act.put, List.setIfInBounds_toArray, List.set_cons_zero, List.set_cons_succ]
              refine tkL 6 (v := ?_) rfl (by kernel_rfl) ⟨by rfl, ?_⟩ hS ?_
              rotate_left
              · intro w0 hs; skip; go_simp; try (with_reducible rfl)
              try simp only [Act.put, List.setIfInBounds_toArray, List.set_cons_zero, List.set_cons_succ]
              refine wpAnyL_one (i := 7) (oi := ⟨_, _, _, _, _, _⟩) rfl (by kernel_rfl) (fun K hK => ?_)
              rw [if_pos (by rfl)]
              have b7 := k7.blk (k6.blk (a := wr.drew) HBR'.out.2 (by show ¬ g + 1 = g + 2; omega)) (fun e => by have := L6.2.1 _ e; have := HG3.out; omega)
              have cz := b7.cell 1
              have fz := b7.free 1
              go_simp
              refine hK.out _ _ (.inl rfl) ?_
              clear hK
              try simp only [Act.put, List.setIfInBounds_toArray, List.set_cons_zero, List.set_cons_succ]
              refine wpAnyL_done (by kernel_rfl) ?_ _
              have b8 : Blk (w7.setCell ⟨g + 1, 1, none⟩ (.slice q7 l7 n7)) (g + 1) #[(.slice pq X.length pn), (.slice q7 l7 n7)] 41 := b7.set 1 (.slice q7 l7 n7)
              have k8 : Keep (fun k => k = g + 1) w7 (w7.setCell ⟨g + 1, 1, none⟩ (.slice q7 l7 n7)) := Keep.set (X := fun k => k = g + 1) (Keep.refl _ w7) (p := ⟨g + 1, 1, none⟩) (.inl rfl) _
              have h3g : g + 3 ≤ w1.heap.size := HG3.out
              have h1r : w1.heap.size ≤ wr.heap.size := HJ.out.2.2.2.2.size
              have hrd : wr.drew.heap.size = wr.heap.size := rfl
              have hr6 : wr.drew.heap.size ≤ w6.heap.size := k6.size
              have h67 : w6.heap.size ≤ w7.heap.size := k7.size
              have h78 : (w7.setCell ⟨g + 1, 1, none⟩ (.slice q7 l7 n7)).heap.size = w7.heap.size := by simp [World.setCell]
              have hodl : ∀ k, od = some k → w1.heap.size ≤ k ∧ k < wr.heap.size := fun k e => ⟨L6.2.1 _ e, HJ.out.2.1.lt _ e⟩
              have L8 : LstO strK 9 (w7.setCell ⟨g + 1, 1, none⟩ (.slice q7 l7 n7)) w1.heap.size o7 (.slice q7 l7 n7) (Y ++ [sK ks]) := L7.keep k8 (fun b h1 h2 e => by omega)
              have hk5 : ∃ s5 b5, RdP (fun b => wr.heap.size ≤ b) w6 (g + 2) s5 b5 ∧ RdSt rdKey T2 ((Y ++ [sK ks]).map bsK) m' s5 b5 := by
                have hst := HJ.out.2.2.1
                rcases hkcase with ⟨s, a1, a2⟩ | ⟨a1, s, a2, a3⟩
                · refine ⟨s, false, a2, ?_⟩
                  rw [List.map_append]
                  exact hst.ok a1 (rdKey_byt hst.1 a1)
                · exact ⟨s, true, a2, hst.bad a1 a3⟩
              obtain ⟨s8, b9, hr6', hst8⟩ := hk5
              have hr8 : RdP (Away g o7) (w7.setCell ⟨g + 1, 1, none⟩ (.slice q7 l7 n7)) (g + 2) s8 b9 := by
                have hr' : RdP (fun b => wr.heap.size ≤ b ∧ b < w6.heap.size) w6 (g + 2) s8 b9 := hr6'.mono (fun b h1 h2 => ⟨h1, h2⟩)
                have hr7 := hr'.keep k7 (fun e => by have := hodl _ e; omega) (fun b h1 h2 e => by have := hodl _ e; omega)
                refine (hr7.keep k8 (by omega) (fun b h1 h2 e => by omega)).mono (fun b h1 _ => ⟨by omega, by omega, by omega, fun e => ?_⟩)
                rcases ho7 with h | ⟨g9, h, hg9⟩
                · rw [h] at e; have := hodl _ e; omega
                · rw [h] at e; cases e; omega
              have hR8 : ∃ a b : Value, Blk (w7.setCell ⟨g + 1, 1, none⟩ (.slice q7 l7 n7)) g #[a, b] 41 :=
                ⟨a0, a1, k8.blk (k7.blk (k6.blk (a := wr.drew) HBR'.out.1 (by show ¬ g = g + 2; omega)) (fun e => by have := hodl _ e; omega)) (by omega)⟩
              have hB8 : Below g w (w7.setCell ⟨g + 1, 1, none⟩ (.slice q7 l7 n7)) := by
                have a2 := (HJ.out.1.2.2.2.1.drew).trans (k6.below (B := g) (by omega) (fun k hk => by omega))
                have a3 := a2.trans (k7.below (B := g) (by omega) (fun k hk => by have := hodl _ hk; omega))
                exact a3.trans (k8.below (B := g) (by omega) (fun k hk => by omega))
              have hK8 : Keep (fun k => k = g ∨ k = g + 1 ∨ k = g + 2) w1 (w7.setCell ⟨g + 1, 1, none⟩ (.slice q7 l7 n7)) :=
                ((HJ.out.2.2.2.2.drew.trans' k6 (fun k hk => by omega)).trans' k7 (fun k hk => .inr (hodl _ hk).1)).trans' k8 (fun k hk => by omega)
              have H8 := Lib.hid (And.intro (And.intro hR8 (And.intro b8 (And.intro hr8 (And.intro hB8 hgw))) : ReadAt w _ g o7 (.slice pq X.length pn) (.slice q7 l7 n7) s8 b9) (And.intro L8 (And.intro hst8 (And.intro (show (Y ++ [sK ks]).length + m' = n1 from by have := HJ.out.2.2.2.1; simp; omega) hK8))))
              clear b8 k8 L8 h3g h1r hrd hr6 h67 h78 hr8 hr6' hst8 hR8 hB8 hK8 b7 cz fz hc6 L6 L7 k7 ho7 k6 hg6 hx6 run7 f1 f2 f3 f4 f5 hkcase hodl
              go_wp2
              go_roundg m'
              case measure => rw [HG2.out]; omega
              case rel => exact ⟨m', _, o7, (.slice q7 l7 n7), s8, b9, by go_num, rfl, by omega, H8.out⟩
          · rcases Nat.eq_zero_or_pos m with rfl | hm0
            all_goals
              have hend := HEND.out.1 rfl
              have HENDF := Lib.hid hend
              clear hend
              have cD1 : wr.drew.cell? ⟨g + 2, 1, none⟩ = some (.bool true) := HR2.out.cell 1
              have cR0 := HBR.out.1.cell 0
              have cR1 := HBR.out.1.cell 1
              have fR := HBR.out.1.free
              generalize hxl : X.length = xl at *
              generalize hyl : Y.length = yl at *
              have HXYL := Lib.hid (And.intro hxl hyl)
              clear hxl hyl
              generalize lf.length = ll at *
              go_upto_region 14 with fail
              refine wp_region_held_drew (S := fun w' => w'.cell? ⟨g + 1, 0, none⟩ = some (.slice pq xl pn) ∧ w'.cell? ⟨g + 1, 1, none⟩ = some (.slice dq yl dn) ∧ w'.cell? ⟨g + 2, 0, none⟩ = some (.slice pr2 ll cr2) ∧ w'.cell? ⟨g + 2, 1, none⟩ = some (.bool true)) (by kernel_rfl) ⟨HCX.out.1, HCX.out.2.1, HCX.out.2.2.1, cD1⟩ (fun hS => ?_)
              refine tkH 0 (v := ?_) rfl (by kernel_rfl) ⟨by rfl, ?_⟩ hS ?_
              rotate_left
              · intro w0 hs; obtain ⟨s1, s2, s3, s4⟩ := hs; go_simp; try (with_reducible rfl)
              try simp only [Act.put, List.setIfInBounds_toArray, List.set_cons_zero, List.set_cons_succ]
              refine tkH 1 (v := ?_) rfl (by kernel_rfl) ⟨by rfl, ?_⟩ hS ?_
              rotate_left
              · intro w0 hs; obtain ⟨s1, s2, s3, s4⟩ := hs; go_simp; try (with_reducible rfl)
              try simp only [Act.put, List.setIfInBounds_toArray, List.set_cons_zero, List.set_cons_succ]
              refine tkH 2 (v := ?_) rfl (by kernel_rfl) ⟨by rfl, ?_⟩ hS ?_
              rotate_left
              · intro w0 hs; obtain ⟨s1, s2, s3, s4⟩ := hs; go_simp; try (with_reducible rfl)
              try simp only [Act.put, List.setIfInBounds_toArray, List.set_cons_zero, List.set_cons_succ]
              refine tkH 3 (v := ?_) rfl (by kernel_rfl) ⟨by rfl, ?_⟩ hS ?_
              rotate_left
              · intro w0 hs; obtain ⟨s1, s2, s3, s4⟩ := hs; go_simp; try (with_reducible rfl)
              try simp only [Act.put, List.setIfInBounds_toArray, List.set_cons_zero, List.set_cons_succ]
              refine tkH 4 (v := ?_) rfl (by kernel_rfl) ⟨by rfl, ?_⟩ hS ?_
              rotate_left
              · intro w0 hs; obtain ⟨s1, s2, s3, s4⟩ := hs; go_simp; try (with_reducible rfl)
              try simp only [Act.put, List.setIfInBounds_toArray, List.set_cons_zero, List.set_cons_succ]
              refine tkH 5 (v := ?_) rfl (by kernel_rfl) ⟨by rfl, ?_⟩ hS ?_
              rotate_left
              · intro w0 hs; obtain ⟨s1, s2, s3, s4⟩ := hs; go_simp; try (with_reducible rfl)
              try simp only [Act.put, List.setIfInBounds_toArray, List.set_cons_zero, List.set_cons_succ]
              refine tkH 6 (v := ?_) rfl (by kernel_rfl) ⟨by rfl, ?_⟩ hS ?_
              rotate_left
              · intro w0 hs; obtain ⟨s1, s2, s3, s4⟩ := hs; go_simp; try (with_reducible rfl)
              try simp only [Act.put, List.setIfInBounds_toArray, List.set_cons_zero, List.set_cons_succ]
              refine wpAnyH_take (i := 7) (oi := ⟨_, _, _, _, _, _⟩) rfl (by kernel_rfl) (by kernel_rfl) (by kernel_rfl) (fun _ _ _ h => h) (Or.inr ⟨by rfl, rfl⟩) hS ?_
              try simp only [Act.put, List.setIfInBounds_toArray, List.set_cons_zero, List.set_cons_succ]
              refine wpAnyH_take (i := 8) (oi := ⟨_, _, _, _, _, _⟩) rfl (by kernel_rfl) (by kernel_rfl) (by kernel_rfl) (fun _ _ _ h => h) (Or.inr ⟨by rfl, rfl⟩) hS ?_
              try simp only [Act.put, List.setIfInBounds_toArray, List.set_cons_zero, List.set_cons_succ]
              refine wpAnyH_take (i := 9) (oi := ⟨_, _, _, _, _, _⟩) rfl (by kernel_rfl) (by kernel_rfl) (by kernel_rfl) (fun _ _ _ h => h) (Or.inr ⟨by rfl, rfl⟩) hS ?_
              try simp only [Act.put, List.setIfInBounds_toArray, List.set_cons_zero, List.set_cons_succ]
              refine wpAnyH_take (i := 10) (oi := ⟨_, _, _, _, _, _⟩) rfl (by kernel_rfl) (by kernel_rfl) (by kernel_rfl) (fun _ _ _ h => h) (Or.inr ⟨by rfl, rfl⟩) hS ?_
              try simp only [Act.put, List.setIfInBounds_toArray, List.set_cons_zero, List.set_cons_succ]
              refine wpAnyH_take (i := 11) (oi := ⟨_, _, _, _, _, _⟩) rfl (by kernel_rfl) (by kernel_rfl) (by kernel_rfl) (fun _ _ _ h => h) (Or.inr ⟨by rfl, rfl⟩) hS ?_
              try simp only [Act.put, List.setIfInBounds_toArray, List.set_cons_zero, List.set_cons_succ]
              refine wpAnyH_take (i := 12) (oi := ⟨_, _, _, _, _, _⟩) rfl (by kernel_rfl) (by kernel_rfl) (by kernel_rfl) (fun _ _ _ h => h) (Or.inr ⟨by rfl, rfl⟩) hS ?_
              try simp only [Act.put, List.setIfInBounds_toArray, List.set_cons_zero, List.set_cons_succ]
              refine tkH 13 (v := ?_) rfl (by kernel_rfl) ⟨by rfl, ?_⟩ hS ?_
              rotate_left
              · intro w0 hs; obtain ⟨s1, s2, s3, s4⟩ := hs; go_simp; try (with_reducible rfl)
              try simp only [Act.put, List.setIfInBounds_toArray, List.set_cons_zero, List.set_cons_succ]
              refine wpAnyH_ready (rs := [14]) (by kernel_rfl) (by simp) ?_
              refine AllReadyH.cons (o := ⟨_, _, _, _, _, _⟩) rfl (fun K hK => ?_) AllReadyH.nil
              rw [if_pos (by rfl)]
              go_simp
              refine hK.out _ _ ⟨(HKF.out.cell (p := ⟨g + 1, 0, none⟩) HL2.out.1 (by show ¬ g + 1 = g; omega)).trans hS.1, (HKF.out.cell (p := ⟨g + 1, 1, none⟩) HL2.out.1 (by show ¬ g + 1 = g; omega)).trans hS.2.1, (HKF.out.cell (p := ⟨g + 2, 0, none⟩) HL2.out.2 (by show ¬ g + 2 = g; omega)).trans hS.2.2.1, (HKF.out.cell (p := ⟨g + 2, 1, none⟩) HL2.out.2 (by show ¬ g + 2 = g; omega)).trans hS.2.2.2⟩ (fun hS' => ?_)
              clear hS hK
              have hS := hS'; clear hS'
              try simp only [Act.put, List.setIfInBounds_toArray, List.set_cons_zero, List.set_cons_succ]
              refine tkH 15 (v := ?_) rfl (by kernel_rfl) ⟨by rfl, ?_⟩ hS ?_
              rotate_left
              · intro w0 hs; obtain ⟨s1, s2, s3, s4⟩ := hs; go_simp; try (with_reducible rfl)
              try simp only [Act.put, List.setIfInBounds_toArray, List.set_cons_zero, List.set_cons_succ]
              refine wpAnyH_done (by kernel_rfl) ?_ _
              go_wp2
              exact bodyPost_ret (results_cell_tmp Tryz.results35 _ _ g 41 #[.slice pq xl pn, .slice dq yl dn] (0,0) _ rfl HBF.out.1 Tryz.underlying41 rfl (by kernel_rfl)) rfl ⟨HBF.out.2, pq, dq, xl, pn, yl, dn, .inl ⟨HENDF.out, rfl⟩⟩
      · obtain ⟨m', rfl⟩ : ∃ m', m = m' + 1 := ⟨m - 1, by omega⟩
        have PK := Lib.hid (prkey (g + 2) left false wr (HK.out.1.2.2.1.mono (fun b h _ => h.2.2.1)) HK.out.2.2.1.1)
        go_wp2_with fail
        refine PK.out.mono ?_
        rintro e w5 ⟨k5, ks, rfl, hkl, hkcase⟩
        have hk5 : ∃ s5 b5, RdP (fun b => wr.heap.size ≤ b) w5 (g + 2) s5 b5 ∧ Byt s5 ∧ ((rdKey left = some (ks, s5) ∧ b5 = false) ∨ (rdKey left = none ∧ b5 = true)) := by
          rcases hkcase with ⟨s, h1, h2⟩ | ⟨h1, s, h2, h3⟩
          · exact ⟨s, false, h2, rdKey_byt HK.out.2.2.1.1 h1, .inl ⟨h1, rfl⟩⟩
          · exact ⟨s, true, h2, h3, .inr ⟨h1, rfl⟩⟩
        obtain ⟨s5, b5, hr5, hs5, hk5⟩ := hk5
        obtain ⟨pq, pn, rfl, _⟩ := HK.out.2.1.1.form
        have bX := k5.blk HK.out.1.2.1 (by omega)
        have cX : w5.drew.cell? ⟨g + 1, 0, none⟩ = some (.slice pq X.length pn) := bX.cell 0
        have hgl : g + 1 < w5.drew.heap.size := bX.lt
        have PT := prtext (g + 2) s5 b5 60000 w5.drew ((hr5.mono (Q := fun b => b ≠ g + 2) (fun b h _ => by have := HK.out.1.2.2.1.lt; omega)).keep (X := fun _ => False) ((Keep.refl _ w5).drew) (fun h => h) (fun _ _ _ h => h)) hs5 (by decide)
        have L5 : LstO pairK 58 w5.drew (g + 3) o (.slice pq X.length pn) X := (HK.out.2.1.keep (w' := w5) k5 (fun b h1 h2 e => by omega)).keep (Y := fun _ => False) ((Keep.refl _ w5).drew) (fun _ _ _ h => h)
        have H5 := Lib.hid (And.intro hk5 (And.intro bX (And.intro k5 (And.intro L5 hkl))))
        have PT := Lib.hid PT
        have hs5' := hs5
        have h3 : X.length + (m' + 1) = n0 := HK.out.2.2.2.1
        have HX3 := Lib.hid h3
        have hxl : X.length ≤ 20000 := by omega
        have HXL := Lib.hid hxl
        have HGL := Lib.hid hgl
        clear hkcase hk5 hr5 hs5 bX k5 L5 hkl h3 hxl hgl cb
        obtain ⟨xn, hxn⟩ : ∃ xn, xn = X.length := ⟨_, rfl⟩
        rw [← hxn] at cX
        have HXN := Lib.hid hxn
        clear hxn
        go_upto_region 7 with fail
        refine wp_region_last 9 (fun w' => w'.cell? ⟨g + 1, 0, none⟩ = some (.slice pq xn pn)) (by kernel_rfl) cX (fun hS => ?_)
        refine tkL 0 (v := ?_) rfl (by kernel_rfl) ⟨by rfl, ?_⟩ hS ?_
        rotate_left
        · intro w0 hs; skip; go_simp; try (with_reducible rfl)
        try simp only [Act.put, List.setIfInBounds_toArray, List.set_cons_zero, List.set_cons_succ]
        refine tkL 1 (v := ?_) rfl (by kernel_rfl) ⟨by rfl, ?_⟩ hS ?_
        rotate_left
        · intro w0 hs; skip; go_simp; try (with_reducible rfl)
        try simp only [Act.put, List.setIfInBounds_toArray, List.set_cons_zero, List.set_cons_succ]
        refine tkL 2 (v := ?_) rfl (by kernel_rfl) ⟨by rfl, ?_⟩ hS ?_
        rotate_left
        · intro w0 hs; skip; go_simp; try (with_reducible rfl)
        try simp only [Act.put, List.setIfInBounds_toArray, List.set_cons_zero, List.set_cons_succ]
        refine tkL 3 (v := ?_) rfl (by kernel_rfl) ⟨by rfl, ?_⟩ hS ?_
        rotate_left
        · intro w0 hs; skip; go_simp; try (with_reducible rfl)
        try simp only [Act.put, List.setIfInBounds_toArray, List.set_cons_zero, List.set_cons_succ]
        refine wpAnyL_one (i := 4) (oi := ⟨_, _, _, _, _, _⟩) rfl (by kernel_rfl) (fun K hK => ?_)
        rw [if_pos (by rfl)]
        go_step
        refine PT.out.mono ?_
        rintro e w6 ⟨k6, xs, p6, c6, o6, rfl, R6, ho6, hbx, hxl6, hcase6⟩
        simp only []
        have hS' := ((k6.cell (p := ⟨g + 1, 0, none⟩) HGL.out (by show ¬ g + 1 = g + 2; omega)).trans hS)
        refine hK.out _ _ (.inr hS') ?_
        clear hS hK
        have hS := hS'; clear hS'
        try simp only [Act.put, List.setIfInBounds_toArray, List.set_cons_zero, List.set_cons_succ]
        refine tkL 5 (v := ?_) rfl (by kernel_rfl) ⟨by rfl, ?_⟩ hS ?_
        rotate_left
        · intro w0 hs; skip; go_simp; try (with_reducible rfl)
        try simp only [Act.put, List.setIfInBounds_toArray, List.set_cons_zero, List.set_cons_succ]
        refine wpAnyL_one (i := 6) (oi := ⟨_, _, _, _, _, _⟩) rfl (by kernel_rfl) (fun K hK => ?_)
        rw [if_pos (by rfl)]
        go_simp
        have hc6 := hS
        have hS' := ((((Keep.refl (fun _ => False) w6).alloc (.cells #[.string (sK ks), .slice p6 xs.length c6] 58)).cell (p := ⟨g + 1, 0, none⟩) (cell_lt hS) (fun h => h)).trans hS)
        refine hK.out _ _ (.inr hS') ?_
        clear hS hK
        have hS := hS'; clear hS'
        try simp only [Act.put, List.setIfInBounds_toArray, List.set_cons_zero, List.set_cons_succ]
        refine wpAnyL_one (i := 7) (oi := ⟨_, _, _, _, _, _⟩) rfl (by kernel_rfl) (fun K hK => ?_)
        rw [if_pos (by rfl)]
        obtain ⟨i1, z1, f1, f2, f3, f4, f5⟩ := info_ofJ pairInf
        have L6 := H5.out.2.2.2.1.keep k6 (fun b h1 h2 e => by omega)
        obtain ⟨rr, hrr⟩ := rowOf_clone R6 (by omega) hbx
        have hg6 : g + 3 ≤ w6.heap.size := by have := HK.out.2.2.2.2; have := H5.out.2.2.1.size; have := k6.size; have hd0 : w5.drew.heap.size = w5.heap.size := rfl; omega
        have hk6s : w5.heap.size ≤ w6.heap.size := k6.size
        have hdd : w5.drew.heap.size = w5.heap.size := rfl
        have hx6 : pairK.at' (fun b => g + 3 ≤ b ∧ b < w6.heap.size ∧ o ≠ some b) w6 ⟨sK ks, ⟨p6, c6, xs⟩⟩ := ⟨by show ks.toArray.size ≤ 140737488351232; have := H5.out.2.2.2.2; simp; omega, ⟨rr, by show xs.length ≤ 140737488351232; omega⟩, fun q hq => ⟨by have := ho6 _ (hrr q hq); have := H5.out.2.1.lt; have := HK.out.2.2.2.2; have := H5.out.2.2.1.size; omega, R6.lt _ (hrr q hq), fun e => by have := H5.out.2.2.2.1.lt _ e; have := ho6 _ (hrr q hq); omega⟩⟩
        obtain ⟨q8, n8, v7, w7, o7, hv8, run7, L7, k7, ho7⟩ := L6.add 38 Tryz.underlying38 f1 f2 f3 f4 f5 (by decide) hg6 hx6 (by have := HXL.out; unfold maxLen; omega) (by have := HXL.out; omega)
        cases hv8
        change (Builtin.append_ #[38, 38] 38 #[.slice pq X.length pn, .slice (some ⟨w6.heap.size, 0, none⟩) 1 1]).run Tryz.prog (w6.alloc (.cells #[.string (sK ks), .slice p6 xs.length c6] 58)) = .ok v7 w7 at run7
        rw [← HXN.out] at run7
        obtain ⟨q7, n7, hv7, _⟩ := L7.1.form
        obtain ⟨l7, hl7⟩ : ∃ l7, l7 = (X ++ [(⟨sK ks, ⟨p6, c6, xs⟩⟩ : PairD)]).length := ⟨_, rfl⟩
        rw [← hl7] at hv7
        subst hv7
        have HL7 := Lib.hid hl7
        clear hl7
        refine wp_appI _ _ 38 rfl rfl rfl run7 ?_
        have hS' := ((k7.cell (p := ⟨g + 1, 0, none⟩) (cell_lt hc6) (fun e => by have := L6.2.1 _ e; simp only at this; omega)).trans hc6)
        refine hK.out _ _ (.inr hS') ?_
        clear hS hK
        have hS := hS'; clear hS'
        try simp only [Act.put, List.setIfInBounds_toArray, List.set_cons_zero, List.set_cons_succ]
        refine tkL 8 (v := ?_) rfl (by kernel_rfl) ⟨by rfl, ?_⟩ hS ?_
        rotate_left
        · intro w0 hs; skip; go_simp; try (with_reducible rfl)
        try simp only [Act.put, List.setIfInBounds_toArray, List.set_cons_zero, List.set_cons_succ]
        refine wpAnyL_one (i := 9) (oi := ⟨_, _, _, _, _, _⟩) rfl (by kernel_rfl) (fun K hK => ?_)
        rw [if_pos (by rfl)]
        have b7 := k7.blk (k6.blk (a := w5.drew) H5.out.2.1 (by show ¬ g + 1 = g + 2; omega)) (fun e => by have := L6.2.1 _ e; omega)
        have cz := b7.cell 0
        have fz := b7.free 0
        go_simp
        refine hK.out _ _ (.inl rfl) ?_
        clear hK
        try simp only [Act.put, List.setIfInBounds_toArray, List.set_cons_zero, List.set_cons_succ]
        refine wpAnyL_done (by kernel_rfl) ?_ _
        have b8 : Blk (w7.setCell ⟨g + 1, 0, none⟩ (.slice q7 l7 n7)) (g + 1) #[(.slice q7 l7 n7), .slice none 0 0] 41 := b7.set 0 (.slice q7 l7 n7)
        have k8 : Keep (fun k => k = g + 1) w7 (w7.setCell ⟨g + 1, 0, none⟩ (.slice q7 l7 n7)) := Keep.set (X := fun k => k = g + 1) (Keep.refl _ w7) (p := ⟨g + 1, 0, none⟩) (.inl rfl) _
        have L8 := L7.keep k8 (fun b h1 h2 e => by omega)
        have h57 : w6.heap.size ≤ w7.heap.size := k7.size
        have h78 : (w7.setCell ⟨g + 1, 0, none⟩ (.slice q7 l7 n7)).heap.size = w7.heap.size := by simp [World.setCell]
        have hr8 : ∃ s8 b9, RdP (Away g o7) (w7.setCell ⟨g + 1, 0, none⟩ (.slice q7 l7 n7)) (g + 2) s8 b9 ∧ RdSt rdPut T ((X ++ [(⟨sK ks, ⟨p6, c6, xs⟩⟩ : PairD)]).map pairX) m' s8 b9 := by
          have mv : ∀ s8 b9, RdP (fun b => w5.heap.size ≤ b) w6 (g + 2) s8 b9 → RdP (Away g o7) (w7.setCell ⟨g + 1, 0, none⟩ (.slice q7 l7 n7)) (g + 2) s8 b9 := fun s8 b9 hr => by
            have hw5 : g + 3 ≤ w5.heap.size := by have := HK.out.2.2.2.2; have := H5.out.2.2.1.size; omega
            have hr' : RdP (fun b => w5.heap.size ≤ b ∧ b < w6.heap.size) w6 (g + 2) s8 b9 := hr.mono (fun b h1 h2 => ⟨h1, h2⟩)
            have hr7 := hr'.keep k7 (fun e => by have := L6.2.1 _ e; omega) (fun b h1 h2 e => by have := H5.out.2.2.2.1.lt _ e; omega)
            refine (hr7.keep k8 (by omega) (fun b h1 h2 e => by omega)).mono (fun b h1 _ => ⟨by omega, by omega, by omega, fun e => ?_⟩)
            rcases ho7 with h | ⟨g9, h, hg9⟩
            · rw [h] at e; have := H5.out.2.2.2.1.lt _ e; omega
            · rw [h] at e; cases e; omega
          have hst := HK.out.2.2.1
          rcases H5.out.1 with ⟨a1, rfl⟩ | ⟨a1, rfl⟩
          · rcases hcase6 with ⟨c1, c2, c3⟩ | ⟨c1, c2, c3⟩
            · refine ⟨_, false, mv _ _ c3, ?_⟩
              have := hst.ok (rdPut_some a1 c1) (rt_parts hs5' c1).2.1
              rw [List.map_append, c2]
              exact this
            · exact ⟨[], true, mv _ _ c3, hst.bad (rdPut_none a1 c1) Byt.nil⟩
          · rcases hcase6 with ⟨c1, c2, c3⟩ | ⟨c1, c2, c3⟩
            · exact ⟨_, true, mv _ _ c3, hst.bad (rdPut_nokey a1) (rt_parts hs5' c1).2.1⟩
            · exact ⟨[], true, mv _ _ c3, hst.bad (rdPut_nokey a1) Byt.nil⟩
        obtain ⟨s8, b9, hr8, hst8⟩ := hr8
        have hR8 : ∃ a b : Value, Blk (w7.setCell ⟨g + 1, 0, none⟩ (.slice q7 l7 n7)) g #[a, b] 41 := by
          obtain ⟨a, b, h⟩ := HK.out.1.1
          exact ⟨a, b, k8.blk (k7.blk (k6.blk (a := w5.drew) (H5.out.2.2.1.blk h (by omega)) (by show ¬ g = g + 2; omega)) (fun e => by have := L6.2.1 _ e; omega)) (by omega)⟩
        have hB8 : Below g w (w7.setCell ⟨g + 1, 0, none⟩ (.slice q7 l7 n7)) := by
          have a1 := HK.out.1.2.2.2.1.trans (H5.out.2.2.1.below (B := g) (by have := HK.out.2.2.2.2; omega) (fun k hk => by omega))
          have a2 := (a1.drew).trans (k6.below (B := g) (by have := HK.out.2.2.2.2; have := H5.out.2.2.1.size; omega) (fun k hk => by omega))
          have a3 := a2.trans (k7.below (B := g) (by have := HK.out.2.2.2.2; have := H5.out.2.2.1.size; omega) (fun k hk => by have := L6.2.1 _ hk; omega))
          exact a3.trans (k8.below (B := g) (by have := HK.out.2.2.2.2; have := H5.out.2.2.1.size; omega) (fun k hk => by omega))
        have H8 := Lib.hid (And.intro (And.intro hR8 (And.intro b8 (And.intro hr8 (And.intro hB8 hgw))) : ReadAt w _ g o7 (.slice q7 l7 n7) (.slice none 0 0) s8 b9) (And.intro L8 (And.intro hst8 (And.intro (show (X ++ [(⟨sK ks, ⟨p6, c6, xs⟩⟩ : PairD)]).length + m' = n0 from by have := HX3.out; simp; omega) (show g + 3 ≤ (w7.setCell ⟨g + 1, 0, none⟩ (.slice q7 l7 n7)).heap.size from by have := HK.out.2.2.2.2; have := H5.out.2.2.1.size; omega)))))
        clear b8 k8 L8 h57 h78 hr8 hst8 hR8 hB8 b7 cz fz hc6 L6 L7 k7 ho7 k6 hk6s hdd hg6 R6 ho6 hbx hcase6 rr hrr hx6 hxl6 run7 f1 f2 f3 f4 f5
        go_wp2
        go_roundg m'
        case measure => rw [HG.out]; omega
        case rel => exact ⟨m', _, o7, (.slice q7 l7 n7), s8, b9, by go_num, rfl, by omega, H8.out⟩
    · obtain ⟨pq, pn, rfl, _⟩ := HK.out.2.1.1.form
      obtain ⟨a0, a1, bR⟩ := HK.out.1.1
      have bX := HK.out.1.2.1
      have cX0 : wr.cell? ⟨g + 1, 0, none⟩ = some (.slice pq X.length pn) := bX.cell 0
      have cX1 : wr.cell? ⟨g + 1, 1, none⟩ = some (.slice none 0 0) := bX.cell 1
      have cR0 := bR.cell 0
      have cR1 := bR.cell 1
      have fR := bR.free
      have bf : Blk ((wr.setCell ⟨g, 0, none⟩ (.slice pq X.length pn)).setCell ⟨g, 1, none⟩ (.slice none 0 0)) g #[(.slice pq X.length pn), .slice none 0 0] 41 := (bR.set 0 _).set 1 _
      have hbf : Below w.heap.size w ((wr.setCell ⟨g, 0, none⟩ (.slice pq X.length pn)).setCell ⟨g, 1, none⟩ (.slice none 0 0)) := by
        rw [hgw]; exact (HK.out.1.2.2.2.1.setCell (p := ⟨g, 0, none⟩) (Nat.le_refl _) _).setCell (p := ⟨g, 1, none⟩) (Nat.le_refl _) _
      have HF := Lib.hid (And.intro bf (And.intro hbf (HT.out.1 HK.out.2.2.1.none)))
      clear bf hbf bX bR
      generalize X.length = xl at *
      rcases Nat.eq_zero_or_pos m with rfl | hm0
      · go_wp2
        exact bodyPost_ret (results_cell_tmp Tryz.results35 _ _ g 41 #[.slice pq xl pn, .slice none 0 0] (0,0) _ rfl HF.out.1 Tryz.underlying41 rfl (by kernel_rfl)) rfl ⟨HF.out.2.1, pq, none, xl, pn, 0, 0, .inl ⟨HF.out.2.2, rfl⟩⟩
      · go_wp2
        exact bodyPost_ret (results_cell_tmp Tryz.results35 _ _ g 41 #[.slice pq xl pn, .slice none 0 0] (0,0) _ rfl HF.out.1 Tryz.underlying41 rfl (by kernel_rfl)) rfl ⟨HF.out.2.1, pq, none, xl, pn, 0, 0, .inl ⟨HF.out.2.2, rfl⟩⟩
end Go.Proofs.YtbjbjgfjaopibaaGreatDoor
end
