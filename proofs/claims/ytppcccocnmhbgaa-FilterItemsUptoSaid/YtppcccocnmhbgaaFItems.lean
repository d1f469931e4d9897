/- The law FilterItems, walked. -/
import Derived.Test.YtppcccocnmhbgaaCopyB
import Derived.Test.YtppcccocnmhbgaaSameB
import Derived.Test.YtppcccocnmhbgaaSpoil
import Derived.Test.YtppcccocnmhbgaaBuild1
import Derived.Test.YtppcccocnmhbgaaOpenU
namespace Go.Proofs.Ytppcccocnmhbgaa
open Go Go.RowKit
set_option linter.unusedSimpArgs false
set_option linter.unusedVariables false
set_option maxRecDepth 100000

/-- the filter of nothing is written -/
theorem awake_ok (w : World) : Calls Try.prog 15 #[] w fun e w' => e = .returned (.bool true) ∧ Below w.heap.size w w' := by
  have PB := Lib.hid (build_nil 0 w)
  have hz : hv 0 = .agg #[.int .u8 0, .int .u8 0, .int .u8 0, .int .u8 0, .int .u8 0, .int .u8 0, .int .u8 0, .int .u8 0, .int .u8 0, .int .u8 0, .int .u8 0, .int .u8 0, .int .u8 0, .int .u8 0, .int .u8 0, .int .u8 0, .int .u8 0, .int .u8 0, .int .u8 0, .int .u8 0, .int .u8 0, .int .u8 0, .int .u8 0, .int .u8 0, .int .u8 0, .int .u8 0, .int .u8 0, .int .u8 0, .int .u8 0, .int .u8 0, .int .u8 0, .int .u8 0] := by unfold hv; rw [hcs_zero]; rfl
  go_enter Try.func15, Try.ntmps15
  rw [hz] at PB
  go_wp2_with fail
  refine PB.out.mono ?_
  rintro e w1 ⟨p, c, o, rfl, R, ho, hb⟩
  obtain ⟨_, _, e1, hy, _⟩ := R.form
  cases e1
  have bn := Blk.new w1 #[.int .u8 0] 5
  have PE := Lib.hid (Try.bytes_Equal_all p (some ⟨w1.heap.size, 0, none⟩) 1 c 1 1 [0] [0] (w1.alloc (.cells #[.int .u8 0] 5)) rfl rfl (bytes_keep hy ((Keep.refl (fun _ => False) w1).alloc _) (fun _ _ _ h => h)) (Lib.BytesIn.of_cells (xs := [0]) fun i hi => by
    obtain rfl : i = 0 := by simpa using hi
    rw [Addr.add_lit, bn.cell]; rfl))
  have HB := Lib.hid hb
  clear R ho hb hy bn hz
  go_wp2_with fail
  refine PE.out.mono ?_
  rintro e w2 ⟨rfl, hw⟩
  obtain rfl : w1.alloc (.cells #[.int .u8 0] 5) = w2 := hw.symm
  rw [beq_self_eq_true]
  go_wp2
  go_ret
  exact ⟨rfl, HB.out.alloc HB.out.size _⟩
theorem wpl_load_midG {P : Program} {ops : Array Oper} {rest : List Oper} {op : Oper} {a : Act} {w : World} {Q : Exit → Act → World → Prop} (hw : Region.wanted op (yielded ops a.tmps) = true) (ty : TypeId) (x : Operand) (ho : op.op = .load ty x)
    (b o : Nat) (hx : a.eval x = .pointer (some ⟨b, o, none⟩)) (cs : List Value) (d : TypeDesc) (hc : w.rangeAt b o cs)
    (hu : P.underlying ty = some d) (hd : d.isRow = true) (hi : (P.info? ty).map (·.size) = some cs.length)
    (h : wpList P ops Q rest (a.put op.dst (.agg cs.toArray)) w) : wpList P ops Q (op :: rest) a w :=
  wpList_wanted hw fun _ hK => wp_load_mid ty x ho b o hx cs d hc hu hd hi (hK _ _ h)
/-- items hang on the contents alone -/
theorem itemsL_of {l l' : List RwD} (h : l.map (·.z) = l'.map (·.z)) : itemsL l = itemsL l' := by
  have e : ∀ l : List RwD, (fun i => (l.getD i rwNil).z) = fun i => (l.map (·.z)).getD i [] := fun l => by
    funext i
    rw [List.getD_eq_getElem?_getD, List.getD_eq_getElem?_getD, List.getElem?_map]
    cases l[i]? <;> rfl
  have hl : l.length = l'.length := by have := congrArg List.length h; simpa using this
  unfold itemsL
  rw [e l, e l', h, hl]
theorem outsN_z {s t : SlD OutD} (h : slEq outEq s t) : ∀ j, j ≤ s.n → (outsN s j).map (·.z) = (outsN t j).map (·.z)
  | 0, _ => rfl
  | j + 1, hj => by
    have ih := outsN_z h j (by omega)
    have hz : (s.x j).script.z = (t.x j).script.z := (h.2 j (by omega)).2
    show (outsN s j ++ _).map _ = (outsN t j ++ _).map _
    rw [List.map_append, List.map_append, ih, hz]
    split
    · simp [hz]
    · rfl
theorem txsN_z {s t : SlD TxD} (h : slEq txEq s t) : ∀ j, j ≤ s.n → (txsN s j).map (·.z) = (txsN t j).map (·.z)
  | 0, _ => rfl
  | j + 1, hj => by
    have ih := txsN_z h j (by omega)
    have ho := (h.2 j (by omega)).2.2.1
    show (txsN s j ++ _).map _ = (txsN t j ++ _).map _
    rw [List.map_append, List.map_append, ih, outsN_z ho _ (Nat.le_refl _), ho.1]
theorem allRows_z {B C : BlkD} (h : blkEq B C) (A : Nat → Option Addr) (D : Nat → Nat) (Z : Nat → List Int) (n : Nat) : itemsL (allRows B A D Z n) = itemsL (allRows C A D Z n) := by
  refine itemsL_of ?_
  unfold allRows
  rw [List.map_append, List.map_append, txsN_z h.2 _ (Nat.le_refl _), h.2.1]
theorem rwEq.symm {a b : RwD} (h : rwEq a b) : rwEq b a := Eq.symm h
theorem slEq.symm {α : Type} {R : α → α → Prop} (hR : ∀ x y, R x y → R y x) {s t : SlD α} (h : slEq R s t) : slEq R t s := ⟨h.1.symm, fun i hi => hR _ _ (h.2 i (by rw [h.1]; exact hi))⟩
theorem outEq.symm {x y : OutD} (h : outEq x y) : outEq y x := ⟨h.1.symm, rwEq.symm h.2⟩
theorem inEq.symm {x y : InD} (h : inEq x y) : inEq y x := ⟨h.1.symm, h.2.1.symm, rwEq.symm h.2.2.1, h.2.2.2.1.symm, slEq.symm (fun _ _ h => rwEq.symm h) h.2.2.2.2⟩
theorem txEq.symm {x y : TxD} (h : txEq x y) : txEq y x := ⟨h.1.symm, slEq.symm (fun _ _ h => inEq.symm h) h.2.1, slEq.symm (fun _ _ h => outEq.symm h) h.2.2.1, h.2.2.2.symm⟩
theorem blkEq.symm {x y : BlkD} (h : blkEq x y) : blkEq y x := ⟨h.1.symm, slEq.symm (fun _ _ h => txEq.symm h) h.2⟩
set_option maxHeartbeats 6400000 in
theorem items_walk (B : BlkD) (a0 : Option Addr) (len cap : Nat) (A : Nat → Option Addr) (D : Nat → Nat) (Z : Nat → List Int) (w : World) (hB : BlkOk 1048576 w B) (hR : RowsIn w a0 len A D Z) (hl : len ≤ 1048576) :
    Calls Try.prog 5 #[.agg (blkCs B).toArray, .slice a0 len cap] w fun e w' => e = .returned (.bool true) ∧ Below w.heap.size w w' := by
  obtain ⟨BC, hBC⟩ : ∃ BC, BC = blkCs B := ⟨_, rfl⟩
  rw [← hBC]
  have b1 := Blk.new w BC.toArray 41
  have k1 := (Below.refl w.heap.size w).alloc (Nat.le_refl _) (.cells BC.toArray 41)
  have hbi : (Try.prog.info? 41).map (·.size) = some BC.length := by rw [hBC]; exact blkInfoO B
  have HBC := Lib.hid hBC
  have HH := Lib.hid (And.intro hB (And.intro hR (And.intro b1 k1)))
  clear hB hR b1 k1 hBC
  go_enter Try.func5, Try.ntmps5
  go_upto_region 1 with fail
  have hs1 : (w.alloc (.cells BC.toArray 41)).heap.size = w.heap.size + 1 := by simp
  generalize w.alloc (.cells BC.toArray 41) = w1 at *
  have r1 := range_pre (pre := BC) (post := []) HH.out.2.2.1 (by simp)
  have PC : Calls Try.prog 19 #[.agg BC.toArray] w1 fun e w' => ∃ C, e = .returned (.agg (blkCs C).toArray) ∧ blkEq B C ∧ blkAt (fun b => w1.heap.size ≤ b ∧ b < w'.heap.size) w' C ∧ Below w1.heap.size w1 w' := by
    rw [HBC.out]; exact rcopy_blk B w1 (BlkOk.below HH.out.2.2.2 HH.out.1)
  have PC := Lib.hid PC
  have HS1 := Lib.hid hs1
  clear hs1
  go_wp2_with (first | (refine wpList_load_mid rfl 41 (.tmp 2) rfl w.heap.size 0 rfl BC _ r1 Try.underlying41 rfl hbi ?_) | (refine PC.out.mono ?_))
  rintro e w2 ⟨C, rfl, heq, hat, hb2⟩
  obtain ⟨CC, hCC⟩ : ∃ CC, CC = blkCs C := ⟨_, rfl⟩
  rw [← hCC]
  have hci : (Try.prog.info? 41).map (·.size) = some CC.length := by rw [hCC]; exact blkInfoO C
  have hco := arr_one (blkCs_one C)
  have hcz := blk_size C
  rw [← hCC] at hco hcz
  have bz := Blk.new w2 Try.zeroCells41 41
  have kz := (Below.refl w2.heap.size w2).alloc (Nat.le_refl _) (.cells Try.zeroCells41 41)
  have b3 := bz.setAll CC.toArray (by rw [hcz]; kernel_rfl)
  have k3 := below_setCells (B := w2.heap.size) (g := w2.heap.size) (Nat.le_refl _) CC.toArray.toList 0 (w2.alloc (.cells Try.zeroCells41 41)) kz
  have b1' := HH.out.2.2.1.beyond (hb2.trans (k3.mono hb2.size))
  have HC := Lib.hid (And.intro hCC (And.intro heq (And.intro hat hb2)))
  clear hCC heq hat hb2 kz r1
  go_upto_region 2 with (refine wpl_store rfl 41 (.tmp 5) (.tmp 9) rfl rfl rfl bz (by rw [hcz]; kernel_rfl) (by rw [List.size_toArray]; exact hci) hco ?_)
  generalize hw3 : (w2.alloc (.cells Try.zeroCells41 41)).setCells w2.heap.size 0 CC.toArray.toList = w3 at *
  have hr3 := range_pre (pre := CC) (post := []) b3 (by simp)
  have hb13 : Below w1.heap.size w1 w3 := HC.out.2.2.2.trans (k3.mono HC.out.2.2.2.size)
  have hb03 : Below w.heap.size w w3 := HH.out.2.2.2.trans (hb13.mono HH.out.2.2.2.size)
  have okC : BlkOk 1048576 w3 C := BlkOk.below k3 HC.out.2.2.1.ok
  have PI : Calls Try.prog 20 #[.agg CC.toArray, .slice a0 len cap] w3 fun e w' => (∃ v, e = .returned v ∧ ListOf w' w3.heap.size v (itemsL (allRows C A D Z len))) ∧ Below w3.heap.size w3 w' := by
    rw [HC.out.1]; exact pitems C a0 len cap A D Z w3 okC (HH.out.2.1.below hb03) hl
  have PI := Lib.hid PI
  have hlt3 := b3.lt
  have H3 := Lib.hid (And.intro b3 (And.intro b1' (And.intro hb03 okC)))
  clear bz hco hcz b3 k3 b1' hb13 hb03 okC hw3
  go_wp2_with (first | (refine wpList_load_mid rfl 41 (.tmp 5) rfl w2.heap.size 0 rfl CC _ hr3 Try.underlying41 rfl hci ?_) | (refine PI.out.mono ?_))
  rintro e w4 ⟨⟨v, rfl, hL⟩, hb4⟩
  have r4 := range_pre (pre := BC) (post := []) (H3.out.2.1.beyond hb4) (by simp)
  have hb04 := H3.out.2.2.1.trans (hb4.mono H3.out.2.2.1.size)
  have PR : Calls Try.prog 21 #[.agg BC.toArray, .slice a0 len cap] w4 fun e w' => (∃ v, e = .returned v ∧ ListOf w' w4.heap.size v (itemsL (allRows B A D Z len))) ∧ Below w4.heap.size w4 w' := by
    rw [HBC.out]; exact ritems B a0 len cap A D Z w4 (BlkOk.below hb04 HH.out.1) (HH.out.2.1.below hb04) hl
  have PR := Lib.hid PR
  have H4 := Lib.hid (And.intro hL hb4)
  clear hr3 hL hb4 hb04
  go_wp2_with (first | (refine wpList_load_mid rfl 41 (.tmp 2) rfl w.heap.size 0 rfl BC _ r4 Try.underlying41 rfl hbi ?_) | (refine PR.out.mono ?_))
  rintro e w5 ⟨⟨v', rfl, hL'⟩, hb5⟩
  have hLv := H4.out.1.more hb5
  rw [← allRows_z HC.out.2.1] at hLv
  obtain ⟨q, c, A5, C5, hv5, hc5, hc5', R5⟩ := hLv.rows
  obtain ⟨q', c', A6, C6, hv6, hc6, hc6', R6⟩ := hL'.rows
  have PT := Lib.hid (same_rows q q' _ c c' A5 A6 C5 C6 _ _ w5 R5 R6 (fun _ _ => rfl) (by omega))
  have PS := Lib.hid (spoil_list w5 w3.heap.size v _ hLv)
  rw [hv5] at PS ⊢
  rw [hv6]
  have hb35 := H4.out.2.trans (hb5.mono H4.out.2.size)
  have H5 := Lib.hid hb35
  clear r4 hL' hb5 hLv hv5 hv6 R5 R6 hc5 hc6 hc5' hc6' hb35
  generalize (itemsL (allRows B A D Z len)).length = nn at *
  go_wp2_with (refine PT.out.mono ?_; rintro e w6 ⟨rfl, rfl⟩)
  refine PS.out.mono ?_
  rintro e w6 ⟨rfl, hk6⟩
  have hb36 := H5.out.trans (hk6.below (B := w3.heap.size) H5.out.size (fun k h => h))
  have hb06 := H3.out.2.2.1.trans (hb36.mono H3.out.2.2.1.size)
  have r5 := range_pre (pre := CC) (post := []) (H3.out.1.beyond hb36) (by simp)
  have r6 := range_pre (pre := BC) (post := []) (H3.out.2.1.beyond hb36) (by simp)
  have PB : Calls Try.prog 23 #[.agg CC.toArray, .agg BC.toArray] w6 fun e w' => e = .returned (.bool true) ∧ Below w6.heap.size w6 w' := by
    rw [HBC.out, HC.out.1]
    exact same_blk C B w6 (BlkOk.below hb36 H3.out.2.2.2) (BlkOk.below hb06 HH.out.1) (blkEq.symm HC.out.2.1)
  have PB := Lib.hid PB
  have H6 := Lib.hid hb06
  clear hk6 hb36 hb06
  go_wp2_with (first | (refine wpl_load_midG (by rfl) 41 (.tmp 5) rfl w2.heap.size 0 rfl CC _ r5 Try.underlying41 rfl hci ?_) | (refine wpl_load_midG (by rfl) 41 (.tmp 2) rfl w.heap.size 0 rfl BC _ r6 Try.underlying41 rfl hbi ?_) | (refine PB.out.mono ?_))
  rintro e w7 ⟨rfl, hb7⟩
  have H7 := Lib.hid (H6.out.trans (hb7.mono H6.out.size))
  have PA := Lib.hid (awake_ok w7)
  clear r5 r6 hb7
  go_wp2_with fail
  refine PA.out.mono ?_
  rintro e w8 ⟨rfl, hb8⟩
  have H8 := Lib.hid (H7.out.trans (hb8.mono H7.out.size))
  clear hb8
  go_wp2
  go_ret
  exact ⟨rfl, H8.out⟩
theorem items_all (B : BlkD) (s : SlD RwD) (w : World) (hB : BlkOk 1048576 w B) (hs : SlOk 1048576 1 (fun r : RwD => [r.cell]) (RwOk 1048576) w s) :
    Calls Try.prog 5 #[.agg (blkCs B).toArray, .slice s.a s.n s.c] w fun e w' => e = .returned (.bool true) ∧ Below w.heap.size w w' :=
  items_walk B s.a s.n s.c _ _ _ w hB hs.rows hs.2.1.1
end Go.Proofs.Ytppcccocnmhbgaa
