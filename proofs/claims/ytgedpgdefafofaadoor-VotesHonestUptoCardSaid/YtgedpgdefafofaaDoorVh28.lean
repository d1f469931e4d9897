import Derived.Test.YtgedpgdefafofaaDoorVh19
import Derived.Test.YtgedpgdefafofaaDoorVh14
import Derived.Test.YtgedpgdefafofaaDoorVh27
import Derived.Test.YtgedpgdefafofaaDoorVh22
import Derived.Laws.EntriesVeiled
section
/- votes.Lies: whether a filter can't be a block's. -/
namespace Go.Proofs.YtgedpgdefafofaaDoor
open Go Go.RowKit
set_option linter.unusedSimpArgs false
set_option linter.unusedVariables false
set_option maxRecDepth 100000

theorem exec_neq {P : Program} {t ty : TypeId} {x y : Operand} {o : Oper} {a : Act} {w : World} {va vb : Value} {b : Bool} (ho : o.op = .binOp .neq t x y ty) (hx : a.eval x = va) (hy : a.eval y = vb) (hg : (eqGuard .neq t x y va vb).run P w = .ok () w)
    (hr : (binOp .neq t va vb).run P w = .ok (.bool b) w) : (execOp a.eval o).run P w = .ok (.value (.bool b)) w := by
  unfold execOp
  rw [ho]
  simp only [hx, hy, Sem.run_bind, hg, hr, Result.andThen_ok, Sem.run_pure]
theorem eqgN (x y : Operand) (a b : Nat) (w : World) : (eqGuard .neq 24 x y (hv a) (hv b)).run Tryd.prog w = .ok () w := run_eqGuard_agg _ _ _ _ _ _ _ (by kernel_rfl)
/-- one row in a slice of its own -/
theorem one_row {w : World} {A : Option Addr} {C : Nat} {Z : List Int} (h : RowOf w (.slice A Z.length C) A C Z) : RowsIn (w.alloc (.cells #[.slice A Z.length C] 30)) (some ⟨w.heap.size, 0, none⟩) 1 (fun _ => A) (fun _ => C) (fun _ => Z) := fun i hi => by
  obtain rfl : i = 0 := by omega
  exact ⟨w.heap.size, 0, rfl, (Blk.new w #[.slice A Z.length C] 30).cell 0, h.below ((Below.refl _ w).alloc (Nat.le_refl _) _)⟩
theorem matchE_one {n : Nat} {bs : List Int} {l : List Nat} (h : valuesS bs = some l) (Z : List Int) : matchE n bs 1 (fun _ => Z) = .returned (.tuple #[.bool (matchB n l Z), .int .i64 0]) := by
  rw [matchE_some h]
  have : (List.range 1).any (fun _ => matchB n l Z) = matchB n l Z := by simp [List.range_succ]
  rw [this]
/-- what Lies answers -/
def liesS (id : Nat) (bs : List Int) (sum : Nat) (l : List RwD) : Bool := match valuesS bs with
  | none => true
  | some v => (dblN bs != sum) || (itemsL l).any (fun Z => !matchB id v Z)
theorem liesS_none {id : Nat} {bs : List Int} {sum : Nat} {l : List RwD} (h : valuesS bs = none) : liesS id bs sum l = true := by unfold liesS; rw [h]
theorem liesS_some {id : Nat} {bs : List Int} {sum : Nat} {l : List RwD} {v : List Nat} (h : valuesS bs = some v) : liesS id bs sum l = ((dblN bs != sum) || (itemsL l).any (fun Z => !matchB id v Z)) := by unfold liesS; rw [h]
theorem any_range {α : Type} (l : List α) (d : α) (p : α → Bool) : (List.range l.length).any (fun i => p (l.getD i d)) = l.any p := by
  rw [Bool.eq_iff_iff, List.any_eq_true, List.any_eq_true]
  constructor
  · rintro ⟨i, hi, h⟩
    have hi := List.mem_range.1 hi
    refine ⟨l[i], List.getElem_mem hi, ?_⟩
    rwa [List.getD_eq_getElem?_getD, List.getElem?_eq_getElem hi] at h
  · rintro ⟨x, hx, h⟩
    obtain ⟨i, hi, rfl⟩ := List.mem_iff_getElem.1 hx
    refine ⟨i, List.mem_range.2 hi, ?_⟩
    rw [List.getD_eq_getElem?_getD, List.getElem?_eq_getElem hi]; exact h
set_option maxHeartbeats 1600000 in
/-- the closure of Lies -/
theorem lies1 (mb ib fb n : Nat) (bs : List Int) (q : Option Addr) (c : Nat) (v : List Nat) (A : Option Addr) (C : Nat) (Z : List Int) (w : World)
    (hv' : valuesS bs = some v) (hy : Lib.BytesIn w q bs.length bs) (hr : ∀ y ∈ bs, 0 ≤ y ∧ y ≤ 255) (hc : bs.length ≤ c) (hcm : c ≤ 9223372036854775807) (hl47 : bs.length ≤ 140737488355328)
    (hm : w.cell? ⟨mb, 0, none⟩ = some (.func (.func 21) #[] #[])) (hi : Blk w ib (hcs n) 24) (hf : w.cell? ⟨fb, 0, none⟩ = some (.slice q bs.length c)) (hR : RowOf w (.slice A Z.length C) A C Z) :
    Calls Tryd.prog 25 #[.slice A Z.length C, .pointer (some ⟨mb, 0, none⟩), .pointer (some ⟨ib, 0, none⟩), .pointer (some ⟨fb, 0, none⟩)] w fun e w' => e = .returned (.bool (!matchB n v Z)) ∧ Below w.heap.size w w' := by
  have k1 := (Below.refl w.heap.size w).alloc (Nat.le_refl _) (.cells #[.slice A Z.length C] 30)
  have PM := pmatch n bs q c (some ⟨w.heap.size, 0, none⟩) 1 1 (fun _ => A) (fun _ => C) (fun _ => Z) (w.alloc (.cells #[.slice A Z.length C] 30)) (bytes_keep hy (Keep.of_below (X := fun _ => False) k1) (fun _ _ _ h => h)) hr hc hcm hl47 (one_row hR) (by decide)
  rw [matchE_one hv'] at PM
  replace PM := Lib.hid PM
  have K1 := Lib.hid k1
  have hi' := hi
  generalize matchB n v Z = R at *
  generalize bs.length = bn at *
  generalize Z.length = zn at *
  clear hv' hy hr hR k1 hi
  go_enter Tryd.func25, Tryd.ntmps25
  go_wp2_with (refine wpl_load rfl 24 (.tmp 2) rfl rfl hi' Tryd.underlying24 (by rw [hcs_size]; kernel_rfl) ?_)
  refine PM.out.mono ?_
  rintro e w2 ⟨rfl, hb2⟩
  have K2 := Lib.hid (K1.out.trans (hb2.mono K1.out.size))
  clear hb2
  cases R with
  | true =>
    go_wp2
    go_ret
    exact ⟨rfl, K2.out⟩
  | false =>
    go_wp2
    go_ret
    exact ⟨rfl, K2.out⟩
set_option maxHeartbeats 1600000 in
/-- IndexFunc over rows, by a closure of three boxes -/
theorem index_rows3 (P : Nat → Bool) (p1 p2 p3 : Value) (a0 : Option Addr) (len cap : Nat) (A : Nat → Option Addr) (C : Nat → Nat) (Z : Nat → List Int) (w : World) (hR : RowsIn w a0 len A C Z) (hl : len ≤ 9223372036854775807)
    (hP : ∀ wx, Below w.heap.size w wx → ∀ r, r < len → Calls Tryd.prog 25 #[.slice (A r) (Z r).length (C r), p1, p2, p3] wx fun e w' => e = .returned (.bool (P r)) ∧ Below wx.heap.size wx w') :
    Calls Tryd.prog 49 #[.slice a0 len cap, .func (.func 25) #[] #[p1, p2, p3]] w fun e w' => (∃ i : Int, e = .returned (.int .i64 i) ∧ decide (0 ≤ i) = (List.range len).any P) ∧ Below w.heap.size w w' := by
  have HR := Lib.hid hR
  have HP := Lib.hid hP
  clear hR hP
  go_enter Tryd.func49, Tryd.ntmps49
  go_wp2
  go_loopg [8] len (fun gh i wx => ∃ k : Nat, k ≤ len ∧ i = .int .i64 (k : Int) ∧ gh = len - k ∧ Hid ((List.range k).any P = false ∧ Below w.heap.size w wx))
  case atStart => exact ⟨0, Nat.zero_le _, rfl, rfl, rfl, Below.refl _ _⟩
  case round =>
    obtain ⟨k, hk, rfl, hg, HM⟩ := hrel
    have HG := Lib.hid hg
    clear hg
    by_cases hlt : k < len
    · obtain ⟨b, o, rfl, hc, hrow⟩ := (HR.out.below HM.out.2) k hlt
      have PK := Lib.hid (HP.out wr HM.out.2 k hlt)
      have hany := any_range_succ P k
      rw [HM.out.1, Bool.false_or] at hany
      have HANY := Lib.hid hany
      clear hrow hany
      cases hp : P k with
      | true =>
        rw [hp] at PK HANY
        have hall : (List.range len).any P = true := by
          rw [List.any_eq_true]; exact ⟨k, List.mem_range.2 hlt, hp⟩
        have HALL := Lib.hid hall
        clear hall hp
        go_wp2_with fail
        refine PK.out.mono ?_
        rintro e w1 ⟨rfl, hb1⟩
        have HB := Lib.hid (HM.out.2.trans (hb1.mono HM.out.2.size))
        clear hb1
        go_wp2
        exact bodyPost_ret (results_tmp Tryd.results49 _ _ _) rfl ⟨⟨_, rfl, by rw [HALL.out]; exact decide_eq_true (by omega)⟩, HB.out⟩
      | false =>
        rw [hp] at PK HANY
        clear hp
        go_wp2_with fail
        refine PK.out.mono ?_
        rintro e w1 ⟨rfl, hb1⟩
        have HB := Lib.hid (HM.out.2.trans (hb1.mono HM.out.2.size))
        clear hb1
        go_wp2
        go_roundg (len - (k + 1))
        case measure => rw [HG.out]; omega
        case rel => exact ⟨k + 1, hlt, rfl, rfl, HANY.out, HB.out⟩
    · obtain rfl : k = len := by omega
      go_wp2
      go_ret
      exact ⟨⟨-1, rfl, by rw [HM.out.1]; rfl⟩, HM.out.2⟩
set_option maxHeartbeats 1600000 in
theorem contains_rows3 (P : Nat → Bool) (p1 p2 p3 : Value) (a0 : Option Addr) (len cap : Nat) (A : Nat → Option Addr) (C : Nat → Nat) (Z : Nat → List Int) (w : World) (hR : RowsIn w a0 len A C Z) (hl : len ≤ 9223372036854775807)
    (hP : ∀ wx, Below w.heap.size w wx → ∀ r, r < len → Calls Tryd.prog 25 #[.slice (A r) (Z r).length (C r), p1, p2, p3] wx fun e w' => e = .returned (.bool (P r)) ∧ Below wx.heap.size wx w') :
    Calls Tryd.prog 23 #[.slice a0 len cap, .func (.func 25) #[] #[p1, p2, p3]] w fun e w' => e = .returned (.bool ((List.range len).any P)) ∧ Below w.heap.size w w' := by
  have PI := Lib.hid (index_rows3 P p1 p2 p3 a0 len cap A C Z w hR hl hP)
  clear hR hP
  generalize (List.range len).any P = R at *
  go_enter Tryd.func23, Tryd.ntmps23
  go_wp2_with fail
  refine PI.out.mono ?_
  rintro e w1 ⟨⟨i, rfl, hi⟩, hb⟩
  have HI := Lib.hid hi
  have HB := Lib.hid hb
  clear hi hb
  go_wp2
  go_ret
  refine ⟨?_, HB.out⟩
  rw [← HI.out]; rfl
theorem blk_hdr_range {w : World} {g : Nat} {B : BlkD} {t : TypeId} (h : Blk w g (blkCs B).toArray t) : w.rangeAt g 0 (hdrCs B.hdr) := fun j v hv => by
  rw [Nat.zero_add, h.cell, List.getElem?_toArray]
  unfold blkCs
  rw [List.getElem?_append_left (List.getElem?_eq_some_iff.1 hv).1]; exact hv
theorem blkInfo (B : BlkD) : (Tryd.prog.info? 29).map (·.size) = some (blkCs B).length := by
  have h := blk_size B
  rw [List.size_toArray] at h
  have e : (Tryd.prog.info? 29).map (·.size) = some 69 := by kernel_rfl
  rw [e, h]
end Go.Proofs.YtgedpgdefafofaaDoor
end

section
/- votes.Lies, walked. -/
namespace Go.Proofs.YtgedpgdefafofaaDoor
open Go Go.RowKit
set_option linter.unusedSimpArgs false
set_option linter.unusedVariables false
set_option maxRecDepth 100000

theorem blks3 (w : World) (c1 c2 c3 : Array Value) (t1 t2 t3 : TypeId) : Blk (((w.alloc (.cells c1 t1)).alloc (.cells c2 t2)).alloc (.cells c3 t3)) w.heap.size c1 t1 ∧ Blk (((w.alloc (.cells c1 t1)).alloc (.cells c2 t2)).alloc (.cells c3 t3)) (w.heap.size + 1) c2 t2 ∧ Blk (((w.alloc (.cells c1 t1)).alloc (.cells c2 t2)).alloc (.cells c3 t3)) (w.heap.size + 2) c3 t3 ∧ Below w.heap.size w (((w.alloc (.cells c1 t1)).alloc (.cells c2 t2)).alloc (.cells c3 t3)) := by
  obtain ⟨b1, b2, k⟩ := two_blocks w c1 c2 t1 t2
  have hs : ((w.alloc (.cells c1 t1)).alloc (.cells c2 t2)).heap.size = w.heap.size + 2 := by simp
  have k3 := (Below.refl ((w.alloc (.cells c1 t1)).alloc (.cells c2 t2)).heap.size ((w.alloc (.cells c1 t1)).alloc (.cells c2 t2))).alloc (Nat.le_refl _) (.cells c3 t3)
  refine ⟨b1.beyond k3, b2.beyond k3, ?_, k.alloc (by omega) _⟩
  have := Blk.new ((w.alloc (.cells c1 t1)).alloc (.cells c2 t2)) c3 t3
  rw [hs] at this; exact this
theorem rowsNil (w : World) (A : Nat → Option Addr) (C : Nat → Nat) (Z : Nat → List Int) : RowsIn w none 0 A C Z := fun r hr => by omega
/-- a block's own rows -/
def ownRows (B : BlkD) : List RwD := allRows B (fun _ => none) (fun _ => 0) (fun _ => []) 0
set_option maxHeartbeats 6400000 in
theorem plies (B : BlkD) (bs : List Int) (q : Option Addr) (c sum : Nat) (w : World) (G : Glob w) (hB : BlkOk 1048576 w B) (hy : Lib.BytesIn w q bs.length bs) (hr : ∀ y ∈ bs, 0 ≤ y ∧ y ≤ 255) (hc : bs.length ≤ c) (hcm : c ≤ 9223372036854775807) (hl47 : bs.length ≤ 140737488355200) (hsum : sum < W256) :
    Calls Tryd.prog 7 #[.agg (blkCs B).toArray, .slice q bs.length c, hv sum] w fun e w' => e = .returned (.bool (liesS (idN B.hdr) bs sum (ownRows B))) ∧ Below w.heap.size w w' := by
  have L := blks3 w (blkCs B).toArray #[.slice q bs.length c] (hcs sum) 29 30 24
  have hs3 : (((w.alloc (.cells (blkCs B).toArray 29)).alloc (.cells #[.slice q bs.length c] 30)).alloc (.cells (hcs sum) 24)).heap.size = w.heap.size + 3 := by simp
  have HB := Lib.hid (fun (wx : World) (hb : Below w.heap.size w wx) => BlkOk.below hb hB)
  have HG := Lib.hid (fun (wx : World) (hb : Below w.heap.size w wx) => G.below hb)
  have HY := Lib.hid (fun (wx : World) (hb : Below w.heap.size w wx) => bytes_keep hy (Keep.of_below (X := fun _ => False) hb) (fun _ _ _ h => h))
  have PV := Lib.hid (fun (wx : World) (hb : Below w.heap.size w wx) => pvalues bs q c wx (HY.out wx hb) hr hc hcm (by omega))
  have PS := Lib.hid (fun (wx : World) (hb : Below w.heap.size w wx) => psum bs q c wx (HG.out wx hb) (HY.out wx hb) hr hc (by omega))
  have PI := Lib.hid (fun (wx : World) (hb : Below w.heap.size w wx) => phid B.hdr hB.1 wx (HG.out wx hb))
  have PT := Lib.hid (fun (wx : World) (hb : Below w.heap.size w wx) => pitems B none 0 0 (fun _ => none) (fun _ => 0) (fun _ => []) wx (HB.out wx hb) (rowsNil _ _ _ _) (by decide))
  have L1 := Lib.hid (fun mb ib fb n v A C Z wx hv' (hb : Below w.heap.size w wx) => lies1 mb ib fb n bs q c v A C Z wx hv' (HY.out wx hb) hr hc hcm (by omega))
  have hdn := shaN_lt (hbytes (shaN bs))
  have HN := fun (w : World) => hneq (dblN bs) sum hdn hsum w
  have hbi := blkInfo B
  have hhi := hdrInfo B.hdr
  have HR := Lib.hid (fun (wx : World) (g : Nat) (t : TypeId) (h : Blk wx g (blkCs B).toArray t) => And.intro (blk_hdr_range h) (blk_rangeL h))
  have HL := Lib.hid (And.intro L hs3)
  have hrows : allRows B (fun _ => none) (fun _ => 0) (fun _ => []) 0 = ownRows B := rfl
  rw [hrows] at PT
  generalize ownRows B = RW at *
  generalize idN B.hdr = ID at *
  generalize hdrCs B.hdr = HC at *
  generalize blkCs B = BC at *
  clear L hs3 hB G hy hrows
  obtain ⟨R, hR⟩ : ∃ R, R = liesS ID bs sum RW := ⟨_, rfl⟩
  rw [← hR]
  have HRR := Lib.hid hR
  have hnone := @liesS_none ID bs sum RW
  have hsome : ∀ v, valuesS bs = some v → liesS ID bs sum RW = ((dblN bs != sum) || (itemsL RW).any (fun Z => !matchB ID v Z)) := fun v h => liesS_some h
  have HNS := Lib.hid (And.intro hnone hsome)
  clear hR hnone hsome
  generalize hbn : bs.length = bn at *
  generalize dblN bs = D at *
  go_enter Tryd.func7, Tryd.ntmps7
  go_upto_region 1 with fail
  generalize ((w.alloc (.cells BC.toArray 29)).alloc (.cells #[.slice q bn c] 30)).alloc (.cells (hcs sum) 24) = W at *
  generalize hgw : w.heap.size = g at *
  have c1 : W.cell? ⟨g + 1, 0, none⟩ = some (.slice q bn c) := HL.out.1.2.1.cell 0
  have P1 := Lib.hid (PV.out W HL.out.1.2.2.2)
  go_wp2_with fail
  refine P1.out.mono ?_
  rintro e w1 ⟨hb1, ⟨hno, rfl⟩ | ⟨l, v, o, hsm, rfl, hrow, ho⟩⟩
  · have hRt : R = true := by rw [HRR.out]; exact HNS.out.1 hno
    subst hRt
    have HF := Lib.hid (HL.out.1.2.2.2.trans (hb1.mono (by rw [HL.out.2]; omega)))
    clear hb1 hno
    go_upto_region 2 with fail
    refine wp_region_held_drew (S := fun w' => True) (by kernel_rfl) trivial (fun hS => ?_)
    refine wpAnyH_take (i := 0) (oi := ⟨_, _, _, _, _, _⟩) (v := ?_) rfl (by kernel_rfl) (by kernel_rfl) (by kernel_rfl) (fun _ _ _ h => h) (Or.inl ⟨by rfl, ?_⟩) hS ?_
    rotate_left
    · intro w0 hs; clear hs; go_simp; try (with_reducible rfl)
    try simp only [Act.put, List.setIfInBounds_toArray, List.set_cons_zero, List.set_cons_succ]
    refine wpAnyH_take (i := 1) (oi := ⟨_, _, _, _, _, _⟩) (v := ?_) rfl (by kernel_rfl) (by kernel_rfl) (by kernel_rfl) (fun _ _ _ h => h) (Or.inl ⟨by rfl, ?_⟩) hS ?_
    rotate_left
    · intro w0 hs; clear hs; go_simp; try (with_reducible rfl)
    try simp only [Act.put, List.setIfInBounds_toArray, List.set_cons_zero, List.set_cons_succ]
    refine wpAnyH_take (i := 2) (oi := ⟨_, _, _, _, _, _⟩) (v := ?_) rfl (by kernel_rfl) (by kernel_rfl) (by kernel_rfl) (fun _ _ _ h => h) (Or.inl ⟨by rfl, ?_⟩) hS ?_
    rotate_left
    · intro w0 hs; clear hs; go_simp; try (with_reducible rfl)
    try simp only [Act.put, List.setIfInBounds_toArray, List.set_cons_zero, List.set_cons_succ]
    refine wpAnyH_take (i := 3) (oi := ⟨_, _, _, _, _, _⟩) rfl (by kernel_rfl) (by kernel_rfl) (by kernel_rfl) (fun _ _ _ h => h) (Or.inr ⟨by rfl, rfl⟩) hS ?_
    try simp only [Act.put, List.setIfInBounds_toArray, List.set_cons_zero, List.set_cons_succ]
    refine wpAnyH_take (i := 4) (oi := ⟨_, _, _, _, _, _⟩) rfl (by kernel_rfl) (by kernel_rfl) (by kernel_rfl) (fun _ _ _ h => h) (Or.inr ⟨by rfl, rfl⟩) hS ?_
    try simp only [Act.put, List.setIfInBounds_toArray, List.set_cons_zero, List.set_cons_succ]
    refine wpAnyH_take (i := 5) (oi := ⟨_, _, _, _, _, _⟩) rfl (by kernel_rfl) (by kernel_rfl) (by kernel_rfl) (fun _ _ _ h => h) (Or.inr ⟨by rfl, rfl⟩) hS ?_
    try simp only [Act.put, List.setIfInBounds_toArray, List.set_cons_zero, List.set_cons_succ]
    refine wpAnyH_take (i := 6) (oi := ⟨_, _, _, _, _, _⟩) rfl (by kernel_rfl) (by kernel_rfl) (by kernel_rfl) (fun _ _ _ h => h) (Or.inr ⟨by rfl, rfl⟩) hS ?_
    try simp only [Act.put, List.setIfInBounds_toArray, List.set_cons_zero, List.set_cons_succ]
    refine wpAnyH_take (i := 7) (oi := ⟨_, _, _, _, _, _⟩) (v := ?_) rfl (by kernel_rfl) (by kernel_rfl) (by kernel_rfl) (fun _ _ _ h => h) (Or.inl ⟨by rfl, ?_⟩) hS ?_
    rotate_left
    · intro w0 hs; clear hs; go_simp; try (with_reducible rfl)
    try simp only [Act.put, List.setIfInBounds_toArray, List.set_cons_zero, List.set_cons_succ]
    refine wpAnyH_done (by kernel_rfl) ?_ _
    clear hS
    go_wp2
    exact bodyPost_ret (results_tmp Tryd.results7 _ _ _) rfl ⟨rfl, by first | exact HF.out.drew | (rw [hgw]; exact HF.out.drew)⟩
  · have hRt : R = ((D != sum) || (itemsL RW).any (fun Z => !matchB ID l Z)) := by rw [HRR.out]; exact HNS.out.2 l hsm
    have hW3 : g ≤ W.heap.size := by have := HL.out.2; omega
    have K1 := HL.out.1.2.2.2.trans (hb1.mono hW3)
    have HK1 := Lib.hid K1
    have c2 : w1.cell? ⟨g + 1, 0, none⟩ = some (.slice q bn c) := (HL.out.1.2.1.beyond hb1).cell 0
    have b3 := HL.out.1.2.2.1.beyond hb1
    have b0 := HL.out.1.1.beyond hb1
    have hcl := cell_lt c2
    have hg1 : g ≤ w1.heap.size := by rw [← hgw]; exact HK1.out.size
    have HW := Lib.hid (And.intro hg1 (And.intro b0 (And.intro b3 (And.intro c2 hcl))))
    have LB : ∀ w', Below w1.heap.size w1 w' → w'.rangeAt (g + 1 + 1) 0 (hls sum) := fun w' hS => blk_range (b3.beyond hS)
    have HLB := Lib.hid LB
    have PS1 := Lib.hid (fun w' (hS : Below w1.heap.size w1 w') => PS.out w' (HK1.out.trans (hS.mono hg1)))
    have HRT := Lib.hid hRt
    clear hb1 K1 hrow ho b0 b3 LB hRt
    go_upto_region 2 with fail
    refine wp_region_held_drew (S := fun w' => Below w1.heap.size w1 w') (by kernel_rfl) ((Below.refl _ _).drew) (fun hS => ?_)
    refine wpAnyH_take (i := 0) (oi := ⟨_, _, _, _, _, _⟩) (v := ?_) rfl (by kernel_rfl) (by kernel_rfl) (by kernel_rfl) (fun _ _ _ h => h) (Or.inl ⟨by rfl, ?_⟩) hS ?_
    rotate_left
    · intro w0 hs; have s0 := (hs.cell (p := ⟨g + 1, 0, none⟩) hcl).trans c2; clear hs; go_simp; try (with_reducible rfl)
    try simp only [Act.put, List.setIfInBounds_toArray, List.set_cons_zero, List.set_cons_succ]
    refine wpAnyH_take (i := 1) (oi := ⟨_, _, _, _, _, _⟩) (v := ?_) rfl (by kernel_rfl) (by kernel_rfl) (by kernel_rfl) (fun _ _ _ h => h) (Or.inl ⟨by rfl, ?_⟩) hS ?_
    rotate_left
    · intro w0 hs; have s0 := (hs.cell (p := ⟨g + 1, 0, none⟩) hcl).trans c2; clear hs; go_simp; try (with_reducible rfl)
    try simp only [Act.put, List.setIfInBounds_toArray, List.set_cons_zero, List.set_cons_succ]
    refine wpAnyH_take (i := 2) (oi := ⟨_, _, _, _, _, _⟩) (v := ?_) rfl (by kernel_rfl) (by kernel_rfl) (by kernel_rfl) (fun _ _ _ h => h) (Or.inl ⟨by rfl, ?_⟩) hS ?_
    rotate_left
    · intro w0 hs; have s0 := (hs.cell (p := ⟨g + 1, 0, none⟩) hcl).trans c2; clear hs; go_simp; try (with_reducible rfl)
    try simp only [Act.put, List.setIfInBounds_toArray, List.set_cons_zero, List.set_cons_succ]
    refine wpAnyH_take (i := 3) (oi := ⟨_, _, _, _, _, _⟩) (v := ?_) rfl (by kernel_rfl) (by kernel_rfl) (by kernel_rfl) (fun _ _ _ h => h) (Or.inl ⟨by rfl, ?_⟩) hS ?_
    rotate_left
    · intro w0 hs; have s0 := (hs.cell (p := ⟨g + 1, 0, none⟩) hcl).trans c2; clear hs; go_simp; try (with_reducible rfl)
    try simp only [Act.put, List.setIfInBounds_toArray, List.set_cons_zero, List.set_cons_succ]
    refine wpAnyH_take (i := 5) (oi := ⟨_, _, _, _, _, _⟩) (v := hv sum) rfl (by kernel_rfl) (by kernel_rfl) (by kernel_rfl) (fun _ _ _ h => h) (yld_hash (by rfl) (.tmp 5) rfl (g + 1 + 1) 0 rfl sum (fun w0 hs => HLB.out w0 hs)) hS ?_
    try simp only [Act.put, List.setIfInBounds_toArray, List.set_cons_zero, List.set_cons_succ]
    refine wpAnyH_ready (rs := [4]) (by kernel_rfl) (by simp) ?_
    refine AllReadyH.cons (o := ⟨_, _, _, _, _, _⟩) rfl (fun K hK => ?_) AllReadyH.nil
    rw [if_pos (by rfl)]
    go_step
    refine (PS1.out _ hS).mono ?_
    rintro e v1 ⟨rfl, hv1⟩
    simp only []
    refine hK.out _ _ (hS.trans (hv1.mono hS.size)) (fun hS' => ?_)
    clear hS hK
    have hS := hS'; clear hS'
    try simp only [Act.put, List.setIfInBounds_toArray, List.set_cons_zero, List.set_cons_succ]
    refine wpAnyH_take (i := 6) (oi := ⟨_, _, _, _, _, _⟩) (v := .bool (D != sum)) rfl (by kernel_rfl) (by kernel_rfl) (by kernel_rfl) (fun _ _ _ h => h) (Or.inl ⟨by rfl, fun w0 _ => exec_neq (va := hv D) (vb := hv sum) rfl rfl rfl (eqgN _ _ _ _ w0) (HN w0)⟩) hS ?_
    try simp only [Act.put, List.setIfInBounds_toArray, List.set_cons_zero, List.set_cons_succ]
    refine wpAnyH_take (i := 7) (oi := ⟨_, _, _, _, _, _⟩) (v := ?_) rfl (by kernel_rfl) (by kernel_rfl) (by kernel_rfl) (fun _ _ _ h => h) (Or.inl ⟨by rfl, ?_⟩) hS ?_
    rotate_left
    · intro w0 hs; have s0 := (hs.cell (p := ⟨g + 1, 0, none⟩) hcl).trans c2; clear hs; go_simp; try (with_reducible rfl)
    try simp only [Act.put, List.setIfInBounds_toArray, List.set_cons_zero, List.set_cons_succ]
    refine wpAnyH_done (by kernel_rfl) ?_ _
    have K2 := Lib.hid (HK1.out.trans (hS.mono hg1))
    have b0 := HW.out.2.1.beyond hS
    have c3 : v1.cell? ⟨g + 1, 0, none⟩ = some (.slice q bn c) := (hS.cell (p := ⟨g + 1, 0, none⟩) hcl).trans c2
    have HC3 := Lib.hid c3
    clear hS c2 hcl
    cases hD : (D != sum) with
    | true =>
      have hRt : R = true := by rw [HRT.out, hD]; rfl
      subst hRt
      clear hD
      go_wp2
      exact bodyPost_ret (results_tmp Tryd.results7 _ _ _) rfl ⟨rfl, by first | exact K2.out | (rw [hgw]; exact K2.out)⟩
    | false =>
      have hRt : R = (itemsL RW).any (fun Z => !matchB ID l Z) := by rw [HRT.out, hD]; rfl
      have HRT2 := Lib.hid hRt
      have kA := (Below.refl v1.heap.size v1).alloc (Nat.le_refl _) (.cells #[.func (.func 21) #[] #[]] 60)
      have hg2 : g ≤ v1.heap.size := by rw [← hgw]; exact K2.out.size
      have cM : (v1.alloc (.cells #[.func (.func 21) #[] #[]] 60)).cell? ⟨v1.heap.size, 0, none⟩ = some (.func (.func 21) #[] #[]) := (Blk.new v1 _ _).cell 0
      have HA := Lib.hid (And.intro (K2.out.trans (kA.mono hg2)) (And.intro (b0.beyond kA) (And.intro ((kA.cell (p := ⟨g + 1, 0, none⟩) (cell_lt c3)).trans c3) cM)))
      clear hD hRt kA c3 b0 cM
      go_upto_region 5 with fail
      generalize v1.alloc (.cells #[.func (.func 21) #[] #[]] 60) = w4 at *
      generalize v1.heap.size = mb at *
      have hr4 := (HR.out w4 g _ HA.out.2.1).1
      have PI4 := Lib.hid (PI.out w4 HA.out.1)
      go_wp2_with (refine wpList_load_mid rfl 26 (.tmp 24) rfl g 0 rfl HC _ hr4 Tryd.underlying26 rfl hhi ?_)
      refine PI4.out.mono ?_
      rintro e w5 ⟨rfl, hb5⟩
      have hg4 : g ≤ w4.heap.size := by rw [← hgw]; exact HA.out.1.size
      have K5 := HA.out.1.trans (hb5.mono hg4)
      have hg5 : g ≤ w5.heap.size := by rw [← hgw]; exact K5.size
      have bz := Blk.new w5 hz32 24
      have kz := (Below.refl w5.heap.size w5).alloc (Nat.le_refl _) (.cells hz32 24)
      have bid := bz.setAll (hcs ID) (by rw [hcs_size]; rfl)
      have kid := below_setCells (B := w5.heap.size) (g := w5.heap.size) (Nat.le_refl _) (hcs ID).toList 0 (w5.alloc (.cells hz32 24)) kz
      have k46 := hb5.trans (kid.mono hb5.size)
      have H6 := Lib.hid (And.intro bid (And.intro (K5.trans (kid.mono hg5)) (And.intro (HA.out.2.1.beyond k46) (And.intro ((k46.cell (p := ⟨g + 1, 0, none⟩) (cell_lt HA.out.2.2.1)).trans HA.out.2.2.1) ((k46.cell (p := ⟨mb, 0, none⟩) (cell_lt HA.out.2.2.2)).trans HA.out.2.2.2)))))
      clear hb5 K5 kz bid kid k46 hr4
      go_upto_region 6 with (refine wpl_store rfl 24 (.tmp 10) (.tmp 26) rfl rfl rfl bz (by rw [hcs_size]; rfl) (by rw [hcs_size]; kernel_rfl) (hcs_one _) ?_)
      clear bz
      generalize (w5.alloc (.cells hz32 24)).setCells w5.heap.size 0 (hcs ID).toList = w6 at *
      generalize w5.heap.size = ib at *
      have hr6 := (HR.out w6 g _ H6.out.2.2.1).2
      have PT6 := Lib.hid (PT.out w6 H6.out.2.1)
      have hg6 : g ≤ w6.heap.size := by rw [← hgw]; exact H6.out.2.1.size
      go_wp2_with (refine wpList_load_mid rfl 29 (.tmp 3) rfl g 0 rfl BC _ hr6 Tryd.underlying29 rfl hbi ?_)
      refine PT6.out.mono ?_
      rintro e w7 ⟨⟨v7, rfl, hlist⟩, hb7⟩
      obtain ⟨q7, c7, A7, C7, rfl, hle7, hc7, hrows7⟩ := hlist.rows
      have K7 := H6.out.2.1.trans (hb7.mono hg6)
      have hg7 : g ≤ w7.heap.size := by rw [← hgw]; exact K7.size
      have PC := contains_rows3 (fun r => !matchB ID l ((itemsL RW).getD r [])) (.pointer (some ⟨mb, 0, none⟩)) (.pointer (some ⟨ib, 0, none⟩)) (.pointer (some ⟨g + 1, 0, none⟩)) q7 (itemsL RW).length c7 A7 C7 _ w7 hrows7 (by omega)
        (fun wx hb r hr => L1.out mb ib (g + 1) ID l (A7 r) (C7 r) _ wx hsm (K7.trans (hb.mono hg7)) (((hb7.trans (hb.mono hb7.size)).cell (p := ⟨mb, 0, none⟩) (cell_lt H6.out.2.2.2.2)).trans H6.out.2.2.2.2) (H6.out.1.beyond (hb7.trans (hb.mono hb7.size))) (((hb7.trans (hb.mono hb7.size)).cell (p := ⟨g + 1, 0, none⟩) (cell_lt H6.out.2.2.2.1)).trans H6.out.2.2.2.1) ((hrows7.below hb).row hr))
      rw [any_range (itemsL RW) [] (fun Z => !matchB ID l Z), ← HRT2.out] at PC
      replace PC := Lib.hid PC
      have HK7 := Lib.hid K7
      clear hlist hb7 hrows7 K7 hr6
      generalize (itemsL RW).length = nI at *
      go_wp2_with fail
      refine PC.out.mono ?_
      rintro e w8 ⟨rfl, hb8⟩
      have HF := Lib.hid (HK7.out.trans (hb8.mono hg7))
      clear hb8
      go_wp2
      exact bodyPost_ret (results_tmp Tryd.results7 _ _ _) rfl ⟨rfl, by first | exact HF.out | (rw [hgw]; exact HF.out)⟩
end Go.Proofs.YtgedpgdefafofaaDoor
end

section
/- The document's Match. -/
namespace Go.Proofs.YtgedpgdefafofaaDoor
open Go Go.RowKit
set_option linter.unusedSimpArgs false
set_option linter.unusedVariables false
set_option maxRecDepth 100000

theorem not_mem_getD {l : List Nat} {v : Nat} (h : ∀ i, i < l.length → l.getD i 0 ≠ v) : v ∉ l := fun hm => by
  obtain ⟨i, hi, e⟩ := List.mem_iff_getElem.1 hm
  refine h i hi ?_
  rw [List.getD_eq_getElem?_getD, List.getElem?_eq_getElem hi]; exact e
theorem mem_getD {l : List Nat} {i : Nat} (hi : i < l.length) : l.getD i 0 ∈ l := by
  rw [List.getD_eq_getElem?_getD, List.getElem?_eq_getElem hi]; exact List.getElem_mem hi
set_option maxHeartbeats 3200000 in
theorem rmatch (n : Nat) (bs : List Int) (q : Option Addr) (c : Nat) (a0 : Option Addr) (len cap : Nat) (A : Nat → Option Addr) (C : Nat → Nat) (Z : Nat → List Int) (w : World)
    (hy : Lib.BytesIn w q bs.length bs) (hr : ∀ y ∈ bs, 0 ≤ y ∧ y ≤ 255) (hc : bs.length ≤ c) (hcm : c ≤ 9223372036854775807) (hl47 : bs.length ≤ 140737488355328)
    (hR : RowsIn w a0 len A C Z) (hl : len ≤ 9223372036854775807) :
    Calls Tryd.prog 26 #[hv n, .slice q bs.length c, .slice a0 len cap] w fun e w' => e = matchE n bs len Z ∧ Below w.heap.size w w' := by
  have B0 := Blk.new w (hcs n) 24
  have K0 := (Below.refl w.heap.size w).alloc (Nat.le_refl _) (.cells (hcs n) 24)
  have PV := Lib.hid (rvalues bs q c (w.alloc (.cells (hcs n) 24)) (bytes_keep hy (Keep.of_below (X := fun _ => False) K0) (fun _ _ _ h => h)) hr hc hcm hl47)
  have HB := Lib.hid (And.intro B0 (And.intro K0 (hR.below K0)))
  clear B0 K0 hy hR
  generalize hbn : bs.length = bn at *
  go_enter Tryd.func26, Tryd.ntmps26
  go_upto_region 1 with fail
  generalize w.alloc (.cells (hcs n) 24) = w0 at *
  generalize hgw : w.heap.size = hb at *
  go_wp2_with fail
  refine PV.out.mono ?_
  rintro e w1 ⟨hb1, ⟨hno, rfl⟩ | ⟨l, v, o, hsome, rfl, hrow, ho⟩⟩
  · have HE := Lib.hid (matchE_none (n := n) (len := len) (Z := Z) hno)
    have K1 := Lib.hid (HB.out.2.1.trans (hb1.mono (by rw [← hgw]; exact HB.out.2.1.size)))
    clear hb1 hno
    go_wp2
    exact bodyPost_ret (results_tmp2 Tryd.results26 _ _ _) rfl ⟨HE.out.symm, by rw [hgw]; exact K1.out⟩
  · have HE := Lib.hid (matchE_some (n := n) (len := len) (Z := Z) hsome)
    have hlen := valuesS_len hsome
    obtain ⟨pv, cv, rfl, hU⟩ := U64In.of_row hrow
    have K1 := Lib.hid (HB.out.2.1.trans (hb1.mono (by rw [← hgw]; exact HB.out.2.1.size)))
    have HR1 := Lib.hid (And.intro (HB.out.1.beyond hb1) (And.intro (HB.out.2.2.below hb1) hU))
    obtain ⟨m, hm⟩ : ∃ m, m = l.length := ⟨_, rfl⟩
    rw [← hm] at hlen ⊢
    have HM := Lib.hid hm
    clear hb1 hsome hU hrow ho hm
    go_wp2
    go_loopg [25] len (fun gh i wx => ∃ k : Nat, k ≤ len ∧ i = .int .i64 (k : Int) ∧ gh = len - k ∧ Hid ((List.range k).any (fun r => matchB n l (Z r)) = false ∧ Below w1.heap.size w1 wx))
    case atStart => exact ⟨0, Nat.zero_le _, rfl, rfl, rfl, Below.refl _ _⟩
    case round =>
      obtain ⟨k, hk, rfl, hg, HK⟩ := hrel
      have HG := Lib.hid hg
      clear hg
      by_cases hlt : k < len
      · obtain ⟨b, o2, rfl, hc, hrow⟩ := (HR1.out.2.1.below HK.out.2) k hlt
        have hany := any_range_succ (fun r => matchB n l (Z r)) k
        rw [HK.out.1, Bool.false_or] at hany
        have HANY := Lib.hid hany
        have PR := Lib.hid (rval n m (A k) (C k) (Z k) wr hlen hrow)
        have hmB : matchB n l (Z k) = (decide (0 < (Z k).length) && decide (itemV n m (Z k) ∈ l)) := by unfold matchB; rw [HM.out]
        have HMB := Lib.hid hmB
        have hbx := HR1.out.1.beyond HK.out.2
        clear hrow hany hmB
        generalize itemV n m (Z k) = V at *
        obtain ⟨z, hz⟩ : ∃ z, z = (Z k).length := ⟨_, rfl⟩
        rw [← hz] at hc PR HMB
        clear hz
        by_cases hz0 : z = 0
        · subst hz0
          have HNX : Hid (matchB n l (Z k) = false) := Lib.hid (by rw [HMB.out]; simp)
          go_wp2
          go_roundg (len - (k + 1))
          case measure => rw [HG.out]; omega
          case rel => exact ⟨k + 1, hlt, rfl, rfl, by rw [HANY.out]; exact HNX.out, HK.out.2⟩
        · have z1 : ¬ ((z : Int) = 0) := by omega
          have z2 : ((z : Int) == 0) = false := by rw [beq_eq_false_iff_ne]; omega
          have hmB : matchB n l (Z k) = decide (V ∈ l) := by rw [HMB.out, decide_eq_true (show 0 < z from by omega), Bool.true_and]
          have HMB2 := Lib.hid hmB
          clear hmB HMB
          by_cases hm0 : m = 0
          · subst hm0
            have HNX : Hid (matchB n l (Z k) = false) := Lib.hid (by rw [HMB2.out, List.eq_nil_of_length_eq_zero HM.out.symm]; simp)
            go_wp2
            go_roundg (len - (k + 1))
            case measure => rw [HG.out]; omega
            case rel => exact ⟨k + 1, hlt, rfl, rfl, by rw [HANY.out]; exact HNX.out, HK.out.2⟩
          · have m1 : ¬ ((m : Int) = 0) := by omega
            have m2 : ((m : Int) == 0) = false := by rw [beq_eq_false_iff_ne]; omega
            go_wp2_with (refine wpl_load rfl 24 (.tmp 3) rfl rfl hbx Tryd.underlying24 (by rw [hcs_size]; kernel_rfl) ?_)
            refine PR.out.mono ?_
            rintro e w3 ⟨rfl, hb3⟩
            have K3 := Lib.hid (HK.out.2.trans (hb3.mono HK.out.2.size))
            have HU3 := Lib.hid (HR1.out.2.2.below K3.out)
            clear hb3 hbx hc
            go_wp2
            go_loopg [44] m (fun gh i wx => ∃ j : Nat, j ≤ m ∧ i = .int .i64 (j : Int) ∧ gh = m - j ∧ Hid (∀ i, i < j → l.getD i 0 ≠ V) ∧ wx = w3)
            case atStart => exact ⟨0, Nat.zero_le _, rfl, rfl, fun i hi => by omega, rfl⟩
            case round =>
              obtain ⟨j, hj, rfl, hg2, HJ, hwx⟩ := hrel
              obtain rfl : w3 = wr := hwx.symm
              have HG2 := Lib.hid hg2
              clear hg2
              by_cases hlt2 : j < m
              · obtain ⟨g, rfl, hcl⟩ := HU3.out j (by rw [← HM.out]; exact hlt2)
                obtain ⟨y, hy⟩ : ∃ y, y = l.getD j 0 := ⟨_, rfl⟩
                rw [← hy] at hcl
                have HY := Lib.hid hy
                clear hy
                by_cases hyv : y = V
                · subst hyv
                  have hall : (List.range len).any (fun r => matchB n l (Z r)) = true := by
                    rw [List.any_eq_true]
                    exact ⟨k, List.mem_range.2 hlt, by rw [HMB2.out, HY.out]; exact decide_eq_true (mem_getD (by rw [← HM.out]; exact hlt2))⟩
                  have HALL := Lib.hid hall
                  clear hall
                  have KF := Lib.hid (K1.out.trans (K3.out.mono (by rw [← hgw]; exact K1.out.size)))
                  go_wp2
                  exact bodyPost_ret (results_tmp2 Tryd.results26 _ _ _) rfl ⟨by rw [HE.out, HALL.out]; rfl, by first | exact KF.out | (rw [hgw]; exact KF.out)⟩
                · have hne : ¬ ((V : Int) = (y : Int)) := by omega
                  have hne2 : ((V : Int) == (y : Int)) = false := by rw [beq_eq_false_iff_ne]; omega
                  have HNE := Lib.hid hyv
                  clear hyv
                  go_wp2
                  go_roundg (m - (j + 1))
                  case measure => rw [HG2.out]; omega
                  case rel => exact ⟨j + 1, hlt2, rfl, rfl, fun i hi => by
                    rcases Nat.lt_or_ge i j with h | h
                    · exact HJ.out i h
                    · obtain rfl : i = j := by omega
                      rw [← HY.out]; exact HNE.out, rfl⟩
              · obtain rfl : j = m := by omega
                have HNX : Hid (matchB n l (Z k) = false) := Lib.hid (by rw [HMB2.out]; exact decide_eq_false (not_mem_getD (by rw [← HM.out]; exact HJ.out)))
                go_wp2
                go_roundg (len - (k + 1))
                case measure => rw [HG.out]; omega
                case rel => exact ⟨k + 1, hlt, rfl, rfl, by rw [HANY.out]; exact HNX.out, K3.out⟩
      · obtain rfl : k = len := by omega
        have KF := Lib.hid (K1.out.trans (HK.out.2.mono (by rw [← hgw]; exact K1.out.size)))
        go_wp2
        exact bodyPost_ret (results_tmp2 Tryd.results26 _ _ _) rfl ⟨by rw [HE.out, HK.out.1]; rfl, by first | exact KF.out | (rw [hgw]; exact KF.out)⟩
end Go.Proofs.YtgedpgdefafofaaDoor
end
