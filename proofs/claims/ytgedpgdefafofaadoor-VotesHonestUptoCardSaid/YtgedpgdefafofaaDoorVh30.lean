import Derived.Test.YtgedpgdefafofaaDoorVh29
import Derived.LaidMore
import Derived.SevenTiedAt
import Derived.Stop.Joined
import Derived.Deep.DeepHandedRow
import Derived.Deep.DeepWitnessRowRef
import Derived.Test.YtgedpgdefafofaaDoorCards
import Derived.Test.YtgedpgdefafofaaDoorTie
section
/- The law VotesHonest, walked. -/
namespace Go.Proofs.YtgedpgdefafofaaDoor
open Go Go.RowKit
set_option linter.unusedSimpArgs false
set_option linter.unusedVariables false
set_option maxRecDepth 100000

/-- the block that is nothing -/
def blk0 : BlkD := ⟨⟨0, 0, 0, 0, 0, 0⟩, ⟨none, 0, 0, fun _ => ⟨0, ⟨none, 0, 0, fun _ => ⟨0, 0, ⟨none, 0, []⟩, 0, ⟨none, 0, 0, fun _ => ⟨none, 0, []⟩⟩⟩⟩, ⟨none, 0, 0, fun _ => ⟨0, ⟨none, 0, []⟩⟩⟩, 0⟩⟩⟩
theorem blk0_ok (w : World) : BlkOk 1048576 w blk0 := ⟨⟨by decide, by rw [W256_eq]; exact Nat.two_pow_pos _, by rw [W256_eq]; exact Nat.two_pow_pos _, by decide, by decide, by decide⟩, Nat.le_refl _, ⟨Nat.zero_le _, Nat.zero_le _⟩, fun _ => rfl, fun i hi => absurd hi (Nat.not_lt_zero _)⟩
/-- one bit of a hash turned -/
theorem xor_one : ((List.range 256).all fun a => decide (0 ≤ bits .xor .u8 (a : Int) 1 ∧ bits .xor .u8 (a : Int) 1 ≤ 255 ∧ bits .xor .u8 (a : Int) 1 ≠ (a : Int))) = true := by kernel_rfl
theorem turn_one (s : Nat) : ∃ t, t < W256 ∧ t ≠ s ∧ (hcs s).setIfInBounds 0 (.int .u8 (bits .xor .u8 (byt s 0) 1)) = hcs t := by
  have hb : ∀ i, i < 32 → 0 ≤ (if i = 0 then bits .xor .u8 (byt s 0) 1 else byt s i) ∧ (if i = 0 then bits .xor .u8 (byt s 0) 1 else byt s i) ≤ 255 := fun i _ => by
    by_cases h : i = 0
    · rw [if_pos h]
      have := List.all_eq_true.1 xor_one (bn s 0) (List.mem_range.2 (bn_lt s 0))
      have h2 := of_decide_eq_true this
      rw [← byt_eq] at h2
      exact ⟨h2.1, h2.2.1⟩
    · rw [if_neg h]; have := byt_range s i; omega
  refine ⟨hnum (fun i => if i = 0 then bits .xor .u8 (byt s 0) 1 else byt s i) 32, hnum_lt _ 32 hb, fun e => ?_, ?_⟩
  · have h1 := hnum_byte _ 32 hb 0 (by decide)
    rw [e, if_pos rfl] at h1
    have h2 := of_decide_eq_true (List.all_eq_true.1 xor_one (bn s 0) (List.mem_range.2 (bn_lt s 0)))
    rw [← byt_eq] at h2
    have h3 := h2.1
    have h4 := h2.2.2
    rw [byt_eq] at h4
    rw [byt_eq] at h1 h3
    omega
  · have h1 := hls_of _ hb
    unfold hcs
    rw [← h1]
    apply Array.ext'
    rw [List.setIfInBounds_toArray]
    apply List.ext_getElem?
    intro i
    by_cases hi : i < 32
    · by_cases h0 : i = 0
      · subst h0; simp [hls]
      · simp [hls, hi, h0, List.getElem?_set, Ne.symm h0]
    · rw [List.getElem?_eq_none (by simp [hls]; omega), List.getElem?_eq_none (by simp; omega)]
theorem blk0_zero : (blkCs blk0).toArray = Tryd.zeroCells29 := by kernel_rfl
theorem hv0_zero : hv 0 = .agg hz32 := by kernel_rfl
/-- a block loaded, guarded -/
theorem wpl_loadBg {ops : Array Oper} {rest : List Oper} {o : Oper} {a : Act} {w : World} {Q : Exit → Act → World → Prop} (BC : List Value) (hbi : (Tryd.prog.info? 29).map (·.size) = some BC.length) (hw : Region.wanted o (yielded ops a.tmps) = true) (x : Operand) (ho : o.op = .load 29 x) (b k : Nat) (hx : a.eval x = .pointer (some ⟨b, k, none⟩)) (hr : w.rangeAt b k BC)
    (h : wpList Tryd.prog ops Q rest (a.put o.dst (.agg BC.toArray)) w) : wpList Tryd.prog ops Q (o :: rest) a w :=
  BigFrame.wpList_want hw (fun K hK => wp_load_mid 29 x ho b k hx BC _ hr Tryd.underlying29 rfl hbi (hK _ _ h))
/-- Build's answer, in one form -/
theorem rbuild1 (n : Nat) (a0 : Option Addr) (len cap : Nat) (A : Nat → Option Addr) (C : Nat → Nat) (Z : Nat → List Int) (w : World) (hR : RowsIn w a0 len A C Z) (hl : len ≤ 5000000000000) :
    Calls Tryd.prog 9 #[hv n, .slice a0 len cap] w fun e w' => ∃ p l c er o, e = .returned (.tuple #[.slice p l c, .int .i64 er]) ∧ Below w.heap.size w w' ∧
      (er = 4 ∨ er = 0 ∧ len ≤ 20000 ∧ l = (buildS n (unlikeN Z len)).length ∧ Row w' 5 (.slice p l c) (buildS n (unlikeN Z len)) o) := by
  refine (rbuild n a0 len cap A C Z w hR hl).mono ?_
  rintro e w' ⟨hb, h1, h2⟩
  rcases Nat.lt_or_ge 20000 len with h | h
  · exact ⟨none, 0, 0, 4, none, h1 h, hb, .inl rfl⟩
  · obtain ⟨p, c, o, e1, hr, _⟩ := h2 h
    exact ⟨p, _, c, 0, o, e1, hb, .inr ⟨rfl, h, rfl, hr⟩⟩
set_option maxHeartbeats 6400000 in
theorem honest_walk (B : BlkD) (s : SlD RwD) (w : World) (G : Glob w) (hB : BlkOk 1048576 w B) (hs : SlOk 1048576 1 (fun r : RwD => [r.cell]) (RwOk 1048576) w s) :
    Calls Tryd.prog 4 #[.agg (blkCs B).toArray, .slice s.a s.n s.c] w fun e w' => e = .returned (.bool true) ∧ Below w.heap.size w w' := by
  have b0 := Blk.new w (blkCs B).toArray 29
  have k0 := (Below.refl w.heap.size w).alloc (Nat.le_refl _) (.cells (blkCs B).toArray 29)
  have cT : (w.alloc (.cells (blkCs B).toArray 29)).cell? ⟨w.heap.size, 68, none⟩ = some (.slice B.txs.a B.txs.n B.txs.c) := by rw [b0.cell]; exact blk_txs B
  have hs1 : (w.alloc (.cells (blkCs B).toArray 29)).heap.size = w.heap.size + 1 := by simp
  have HL := Lib.hid (And.intro b0 (And.intro k0 hs1))
  have hsz := blk_size B
  have hbi := blkInfo B
  have hhi := hdrInfo B.hdr
  have PZ : ∀ wx, Below w.heap.size w wx → Calls Tryd.prog 7 #[.agg Tryd.zeroCells29, .slice none 0 0, .agg hz32] wx fun e w' => e = .returned (.bool true) ∧ Below wx.heap.size wx w' := fun wx hb => by
    have := plies blk0 [] none 0 0 wx (G.below hb) (blk0_ok wx) (Lib.BytesIn.nil _ _ _) (fun y hy => by cases hy) (Nat.le_refl _) (by decide) (by decide) (by rw [W256_eq]; exact Nat.two_pow_pos _)
    rw [liesS_none valuesS_nil, blk0_zero, hv0_zero] at this; exact this
  have PN : ∀ wx, Below w.heap.size w wx → Calls Tryd.prog 7 #[.agg (blkCs B).toArray, .slice none 0 0, .agg hz32] wx fun e w' => e = .returned (.bool true) ∧ Below wx.heap.size wx w' := fun wx hb => by
    have := plies B [] none 0 0 wx (G.below hb) (BlkOk.below hb hB) (Lib.BytesIn.nil _ _ _) (fun y hy => by cases hy) (Nat.le_refl _) (by decide) (by decide) (by rw [W256_eq]; exact Nat.two_pow_pos _)
    rw [liesS_none valuesS_nil, hv0_zero] at this; exact this
  have HPZ := Lib.hid PZ
  have HPN := Lib.hid PN
  have PI := Lib.hid (fun (wx : World) => rhid B.hdr hB.1 wx)
  obtain ⟨its, hits⟩ : ∃ its, its = itemsL (allRows B (fun i => (s.x i).a) (fun i => (s.x i).c) (fun i => (s.x i).z) s.n) := ⟨_, rfl⟩
  have PT := Lib.hid (fun (wx : World) (hb : Below w.heap.size w wx) => ritems B s.a s.n s.c (fun i => (s.x i).a) (fun i => (s.x i).c) (fun i => (s.x i).z) wx (BlkOk.below hb hB) (hs.rows.below hb) hs.2.1.1)
  rw [← hits] at PT
  have hown : ∀ x ∈ itemsL (ownRows B), x ∈ unlikeN (fun i => its.getD i []) its.length := fun x hx => by
    have h0 : x ≠ [] := fun e => by have := unlikeN_ne hx; rw [e] at this; simp at this
    exact mem_unlike_list (by rw [hits]; exact own_all hx) h0
  have hitl : its.length ≤ 5000000000000 := by
    rw [hits]
    have h1 := unlikeN_len (fun i => ((allRows B (fun i => (s.x i).a) (fun i => (s.x i).c) (fun i => (s.x i).z) s.n).getD i rwNil).z) (allRows B (fun i => (s.x i).a) (fun i => (s.x i).c) (fun i => (s.x i).z) s.n).length
    have h2 : (allRows B (fun i => (s.x i).a) (fun i => (s.x i).c) (fun i => (s.x i).z) s.n).length = (txsN B.txs B.txs.n).length + (rowsN (fun i => (s.x i).a) (fun i => (s.x i).c) (fun i => (s.x i).z) s.n).length := List.length_append
    have h3 := txsN_len hB.2 B.txs.n (Nat.le_refl _)
    have h4 : B.txs.n * 1048576 ≤ 1048576 * 1048576 := Nat.mul_le_mul_right _ hB.2.2.1.1
    have h6 := hs.2.1.1
    rw [rowsN_len] at h2
    show (unlikeN _ _).length ≤ _
    omega
  have HI := Lib.hid (And.intro hown hitl)
  have PL := Lib.hid (fun (bs : List Int) (q : Option Addr) (c sm : Nat) (wx : World) (hb : Below w.heap.size w wx) hy hr hc hcm hl hsum => plies B bs q c sm wx (G.below hb) (BlkOk.below hb hB) hy hr hc hcm hl hsum)
  have HR := Lib.hid (fun (wx : World) (g : Nat) (t : TypeId) (h : Blk wx g (blkCs B).toArray t) => And.intro (blk_hdr_range h) (blk_rangeL h))
  clear b0 k0 PZ PN hits hown hitl G
  have hnt := hB.2.2.1.1
  have hns := hs.2.1.1
  clear hB hs
  generalize hID : idN B.hdr = ID at *
  generalize hOWN : ownRows B = OWN at *
  generalize hdrCs B.hdr = HC at *
  generalize hBC : blkCs B = BC at *
  generalize s.n = n at *
  generalize B.txs.n = nt at *
  by_cases h1 : 50 < n
  · have d1 : decide ((50 : Int) < (n : Int)) = true := decide_eq_true (by omega)
    clear cT
    go_enter Tryd.func4, Tryd.ntmps4
    go_upto_region 2 with fail
    generalize w.alloc (.cells BC.toArray 29) = W at *
    generalize hgw : w.heap.size = g at *
    go_wp2_with fail
    refine (HPZ.out W HL.out.2.1).mono ?_
    rintro e w1 ⟨rfl, hb1⟩
    have HF := Lib.hid (HL.out.2.1.trans (hb1.mono (by have := HL.out.2.2; omega)))
    clear hb1
    go_wp2
    exact bodyPost_ret (results_tmp Tryd.results4 _ _ _) rfl ⟨rfl, by first | exact HF.out | (rw [hgw]; exact HF.out)⟩
  have d1 : decide ((50 : Int) < (n : Int)) = false := decide_eq_false (by omega)
  by_cases h2 : 50 < nt
  · have d2 : decide ((50 : Int) < (nt : Int)) = true := decide_eq_true (by omega)
    go_enter Tryd.func4, Tryd.ntmps4
    go_upto_region 1 with fail
    generalize w.alloc (.cells BC.toArray 29) = W at *
    generalize hgw : w.heap.size = g at *
    go_upto_region 2 with fail
    go_wp2_with fail
    refine (HPZ.out W HL.out.2.1).mono ?_
    rintro e w1 ⟨rfl, hb1⟩
    have HF := Lib.hid (HL.out.2.1.trans (hb1.mono (by have := HL.out.2.2; omega)))
    clear hb1
    go_wp2
    exact bodyPost_ret (results_tmp Tryd.results4 _ _ _) rfl ⟨rfl, by first | exact HF.out | (rw [hgw]; exact HF.out)⟩
  have d2 : decide ((50 : Int) < (nt : Int)) = false := decide_eq_false (by omega)
  go_enter Tryd.func4, Tryd.ntmps4
  go_upto_region 1 with fail
  generalize w.alloc (.cells BC.toArray 29) = W at *
  generalize hgw : w.heap.size = g at *
  have hgW : g ≤ W.heap.size := by have := HL.out.2.2; omega
  go_upto_region 3 with fail
  have LB : ∀ w', Below W.heap.size W w' → w'.rangeAt g 0 BC := fun w' hS => (HR.out _ _ _ (HL.out.1.beyond hS)).2
  have LH : ∀ w', Below W.heap.size W w' → w'.rangeAt g 0 HC := fun w' hS => (HR.out _ _ _ (HL.out.1.beyond hS)).1
  have HLB := Lib.hid LB
  have HLH := Lib.hid LH
  have PT1 := Lib.hid (fun w' (hS : Below W.heap.size W w') => PT.out w' (HL.out.2.1.trans (hS.mono hgW)))
  clear LB LH cT
  refine wp_region_held_drew (S := fun w' => Below W.heap.size W w') (by kernel_rfl) ((Below.refl _ _).drew) (fun hS => ?_)
  refine wpAnyH_take (i := 0) (oi := ⟨_, _, _, _, _, _⟩) (v := ?_) rfl (by kernel_rfl) (by kernel_rfl) (by kernel_rfl) (fun _ _ _ h => h) (Or.inl ⟨by rfl, ?_⟩) hS ?_
  rotate_left
  · intro w0 hs; clear hs; go_simp; try (with_reducible rfl)
  try simp only [Act.put, List.setIfInBounds_toArray, List.set_cons_zero, List.set_cons_succ]
  refine wpAnyH_take (i := 1) (oi := ⟨_, _, _, _, _, _⟩) (v := .agg HC.toArray) rfl (by kernel_rfl) (by kernel_rfl) (by kernel_rfl) (fun _ _ _ h => h) (yieldsIf_load_mid (by rfl) 26 (.tmp 22) rfl g 0 rfl HC _ (fun w0 hs => HLH.out w0 hs) Tryd.underlying26 rfl hhi) hS ?_
  try simp only [Act.put, List.setIfInBounds_toArray, List.set_cons_zero, List.set_cons_succ]
  refine wpAnyH_take (i := 3) (oi := ⟨_, _, _, _, _, _⟩) (v := .agg BC.toArray) rfl (by kernel_rfl) (by kernel_rfl) (by kernel_rfl) (fun _ _ _ h => h) (yld_blk BC hbi (by rfl) (.tmp 2) rfl g 0 rfl (fun w0 hs => HLB.out w0 hs)) hS ?_
  try simp only [Act.put, List.setIfInBounds_toArray, List.set_cons_zero, List.set_cons_succ]
  refine wpAnyH_take (i := 4) (oi := ⟨_, _, _, _, _, _⟩) (v := ?_) rfl (by kernel_rfl) (by kernel_rfl) (by kernel_rfl) (fun _ _ _ h => h) (Or.inl ⟨by rfl, ?_⟩) hS ?_
  rotate_left
  · intro w0 hs; clear hs; go_simp; try (with_reducible rfl)
  try simp only [Act.put, List.setIfInBounds_toArray, List.set_cons_zero, List.set_cons_succ]
  refine wpAnyH_ready (rs := [2]) (by kernel_rfl) (by simp) ?_
  refine AllReadyH.cons (o := ⟨_, _, _, _, _, _⟩) rfl (fun K hK => ?_) AllReadyH.nil
  rw [if_pos (by rfl)]
  go_step
  refine (PI.out _).mono ?_
  rintro e v1 ⟨rfl, hv1⟩
  simp only []
  refine hK.out _ _ (hS.trans (hv1.mono hS.size)) (fun hS' => ?_)
  clear hS hK
  have hS := hS'; clear hS'
  try simp only [Act.put, List.setIfInBounds_toArray, List.set_cons_zero, List.set_cons_succ]
  refine wpAnyH_ready (rs := [5]) (by kernel_rfl) (by simp) ?_
  refine AllReadyH.cons (o := ⟨_, _, _, _, _, _⟩) rfl (fun K hK => ?_) AllReadyH.nil
  rw [if_pos (by rfl)]
  go_step
  refine (PT1.out _ hS).mono ?_
  rintro e v2 ⟨⟨vv, rfl, hlist⟩, hv2⟩
  obtain ⟨q2, c2, A2, C2, rfl, _, _, hrows2⟩ := hlist.rows
  clear hlist
  simp only []
  refine hK.out _ _ (hS.trans (hv2.mono hS.size)) (fun hS' => ?_)
  clear hS hK
  have hS := hS'; clear hS'
  try simp only [Act.put, List.setIfInBounds_toArray, List.set_cons_zero, List.set_cons_succ]
  refine wpAnyH_ready (rs := [6]) (by kernel_rfl) (by simp) ?_
  refine AllReadyH.cons (o := ⟨_, _, _, _, _, _⟩) rfl (fun K hK => ?_) AllReadyH.nil
  rw [if_pos (by rfl)]
  go_step
  refine (rbuild1 ID q2 _ c2 A2 C2 _ _ hrows2 HI.out.2).mono ?_
  rintro e v3 ⟨p, l, c, er, o, rfl, hv3, hf⟩
  have HF := Lib.hid hf
  clear hf hrows2
  simp only []
  refine hK.out _ _ (hS.trans (hv3.mono hS.size)) (fun hS' => ?_)
  clear hS hK
  have hS := hS'; clear hS'
  try simp only [Act.put, List.setIfInBounds_toArray, List.set_cons_zero, List.set_cons_succ]
  refine wpAnyH_take (i := 7) (oi := ⟨_, _, _, _, _, _⟩) (v := ?_) rfl (by kernel_rfl) (by kernel_rfl) (by kernel_rfl) (fun _ _ _ h => h) (Or.inl ⟨by rfl, ?_⟩) hS ?_
  rotate_left
  · intro w0 hs; clear hs; go_simp; try (with_reducible rfl)
  try simp only [Act.put, List.setIfInBounds_toArray, List.set_cons_zero, List.set_cons_succ]
  refine wpAnyH_take (i := 8) (oi := ⟨_, _, _, _, _, _⟩) (v := ?_) rfl (by kernel_rfl) (by kernel_rfl) (by kernel_rfl) (fun _ _ _ h => h) (Or.inl ⟨by rfl, ?_⟩) hS ?_
  rotate_left
  · intro w0 hs; clear hs; go_simp; try (with_reducible rfl)
  try simp only [Act.put, List.setIfInBounds_toArray, List.set_cons_zero, List.set_cons_succ]
  refine wpAnyH_take (i := 9) (oi := ⟨_, _, _, _, _, _⟩) (v := ?_) rfl (by kernel_rfl) (by kernel_rfl) (by kernel_rfl) (fun _ _ _ h => h) (Or.inl ⟨by rfl, ?_⟩) hS ?_
  rotate_left
  · intro w0 hs; clear hs; go_simp; try (with_reducible rfl)
  try simp only [Act.put, List.setIfInBounds_toArray, List.set_cons_zero, List.set_cons_succ]
  refine wpAnyH_take (i := 10) (oi := ⟨_, _, _, _, _, _⟩) (v := ?_) rfl (by kernel_rfl) (by kernel_rfl) (by kernel_rfl) (fun _ _ _ h => h) (Or.inl ⟨by rfl, ?_⟩) hS ?_
  rotate_left
  · intro w0 hs; clear hs; go_simp; try (with_reducible rfl)
  try simp only [Act.put, List.setIfInBounds_toArray, List.set_cons_zero, List.set_cons_succ]
  refine wpAnyH_take (i := 11) (oi := ⟨_, _, _, _, _, _⟩) (v := ?_) rfl (by kernel_rfl) (by kernel_rfl) (by kernel_rfl) (fun _ _ _ h => h) (Or.inl ⟨by rfl, ?_⟩) hS ?_
  rotate_left
  · intro w0 hs; clear hs; go_simp; try (with_reducible rfl)
  try simp only [Act.put, List.setIfInBounds_toArray, List.set_cons_zero, List.set_cons_succ]
  refine wpAnyH_done (by kernel_rfl) ?_ _
  have K3 := Lib.hid (HL.out.2.1.trans (hS.mono hgW))
  have b3 := HL.out.1.beyond hS
  have hg3 : g ≤ v3.heap.size := Nat.le_trans hgW hS.size
  have hgl3 : g < v3.heap.size := b3.lt
  clear hS hv1 hv2 hv3 PT PT1 PI HLB HLH HPZ
  rcases HF.out with rfl | ⟨rfl, hlen, hl, hrow⟩
  · have hr3 := (HR.out v3 g _ b3).2
    clear HF b3
    go_wp2_with (refine wpList_load_mid rfl 29 (.tmp 2) rfl g 0 rfl BC _ hr3 Tryd.underlying29 rfl hbi ?_)
    refine (HPN.out v3 K3.out).mono ?_
    rintro e w4 ⟨rfl, hb4⟩
    have HE := Lib.hid (K3.out.trans (hb4.mono hg3))
    clear hb4
    go_wp2
    exact bodyPost_ret (results_tmp Tryd.results4 _ _ _) rfl ⟨rfl, by first | exact HE.out | (rw [hgw]; exact HE.out)⟩
  · have hU := unlikeN_len (fun i => its.getD i []) its.length
    have hbr := buildS_range ID (unlikeN (fun i => its.getD i []) its.length)
    have hbl := buildS_len (n := ID) (U := unlikeN (fun i => its.getD i []) its.length) (by omega)
    have hlie := lies_build (n := ID) (U := unlikeN (fun i => its.getD i []) its.length) (by omega) HI.out.1
    obtain ⟨bs, hbs⟩ : ∃ bs, bs = buildS ID (unlikeN (fun i => its.getD i []) its.length) := ⟨_, rfl⟩
    rw [← hbs] at hl hrow hbr hbl hlie
    subst hl
    obtain ⟨_, _, e0, hy, hcp, hcm, _⟩ := hrow.form
    cases e0
    have hcm2 : c ≤ 9223372036854775807 := hcm
    have PS := Lib.hid (rsum bs p c v3 hy hbr (by omega))
    have hwr : ∀ t, t ≠ dblN bs → liesS ID bs t OWN = true := fun t ht => lies_wrong ht
    have PL1 : ∀ wx, Below v3.heap.size v3 wx → Calls Tryd.prog 7 #[.agg BC.toArray, .slice p bs.length c, hv (dblN bs)] wx fun e w' => e = .returned (.bool false) ∧ Below wx.heap.size wx w' := fun wx hb => by
      have := PL.out bs p c (dblN bs) wx (K3.out.trans (hb.mono hg3)) (bytes_keep hy (Keep.of_below (X := fun _ => False) hb) (fun _ _ _ h => h)) hbr hcp hcm2 (by omega) (shaN_lt _)
      rw [hlie] at this; exact this
    have PL2 : ∀ t wx, t < W256 → t ≠ dblN bs → Below v3.heap.size v3 wx → Calls Tryd.prog 7 #[.agg BC.toArray, .slice p bs.length c, hv t] wx fun e w' => e = .returned (.bool true) ∧ Below wx.heap.size wx w' := fun t wx ht hne hb => by
      have := PL.out bs p c t wx (K3.out.trans (hb.mono hg3)) (bytes_keep hy (Keep.of_below (X := fun _ => False) hb) (fun _ _ _ h => h)) hbr hcp hcm2 (by omega) ht
      rw [hwr t hne] at this; exact this
    have PL1 := Lib.hid PL1
    have PL2 := Lib.hid PL2
    have HB3 := Lib.hid b3
    obtain ⟨t, ht, hne, hturn⟩ := turn_one (dblN bs)
    have HT := Lib.hid (And.intro ht (And.intro hne hturn))
    clear HF hU hlen hbr hbl hlie hbs hrow hy hcp hwr PL b3 ht hne hturn HPN
    generalize dblN bs = D at *
    generalize bs.length = bl at *
    go_wp2_with fail
    refine PS.out.mono ?_
    rintro e w4 ⟨rfl, hb4⟩
    have bz := Blk.new w4 hz32 24
    have kz := (Below.refl w4.heap.size w4).alloc (Nat.le_refl _) (.cells hz32 24)
    have bid := bz.setAll (hcs D) (by rw [hcs_size]; rfl)
    have kid := below_setCells (B := w4.heap.size) (g := w4.heap.size) (Nat.le_refl _) (hcs D).toList 0 (w4.alloc (.cells hz32 24)) kz
    have H5 := Lib.hid (And.intro (hb4.trans (kid.mono hb4.size)) hb4.size)
    clear hb4 kz kid
    go_upto_region 7 with (refine wpl_store rfl 24 (.tmp 7) (.tmp 37) rfl rfl rfl bz (by rw [hcs_size]; rfl) (by rw [hcs_size]; kernel_rfl) (hcs_one _) ?_)
    clear bz
    generalize (w4.alloc (.cells hz32 24)).setCells w4.heap.size 0 (hcs D).toList = w5 at *
    generalize w4.heap.size = g7 at *
    have bz := Blk.new w5 hz32 24
    have kz := (Below.refl w5.heap.size w5).alloc (Nat.le_refl _) (.cells hz32 24)
    have b8 := bz.setAll (hcs D) (by rw [hcs_size]; rfl)
    have k8 := below_setCells (B := w5.heap.size) (g := w5.heap.size) (Nat.le_refl _) (hcs D).toList 0 (w5.alloc (.cells hz32 24)) kz
    have H6 := Lib.hid (And.intro (H5.out.1.trans (k8.mono H5.out.1.size)) (bid.beyond k8))
    go_upto_region 8 with (first | (refine wpl_load rfl 24 (.tmp 7) rfl rfl bid Tryd.underlying24 (by rw [hcs_size]; kernel_rfl) ?_) | (refine wpl_store rfl 24 (.tmp 8) (.tmp 38) rfl rfl rfl bz (by rw [hcs_size]; rfl) (by rw [hcs_size]; kernel_rfl) (hcs_one _) ?_))
    have hlt78 : g7 ≠ w5.heap.size := Nat.ne_of_lt bid.lt
    clear bz bid kz
    generalize (w5.alloc (.cells hz32 24)).setCells w5.heap.size 0 (hcs D).toList = w6 at *
    have hg8 : v3.heap.size ≤ w5.heap.size := H5.out.1.size
    generalize w5.heap.size = g8 at *
    have c8 : w6.cell? ⟨g8, 0, none⟩ = some (.int .u8 (byt D 0)) := by rw [b8.cell]; exact hcs_get D 0 (by decide)
    have f8 := b8.free 0
    have b9 := b8.set 0 (.int .u8 (bits .xor .u8 (byt D 0) 1))
    rw [HT.out.2.2] at b9
    have b7 := H6.out.2
    have k9 := H6.out.1.setCell (p := ⟨g8, 0, none⟩) hg8 (.int .u8 (bits .xor .u8 (byt D 0) 1))
    have H9 := Lib.hid (And.intro b9 (And.intro k9 ((Keep.set (X := fun k => k = g8) (Keep.refl _ w6) (p := ⟨g8, 0, none⟩) (.inl rfl) (.int .u8 (bits .xor .u8 (byt D 0) 1))).blk b7 hlt78)))
    clear b8 b9 k9 b7
    go_upto_region 9 with fail
    generalize w6.setCell ⟨g8, 0, none⟩ (.int .u8 (bits .xor .u8 (byt D 0) 1)) = w7 at *
    have r0 := (HR.out w7 g _ (HB3.out.beyond H9.out.2.1)).2
    have r7 := blk_range H9.out.2.2
    clear c8 f8 H6 H5
    go_wp2_with (first | (refine wpList_load_mid rfl 29 (.tmp 2) rfl g 0 rfl BC _ r0 Tryd.underlying29 rfl hbi ?_) | (refine wpl_loadH rfl (.tmp 7) rfl g7 0 rfl D r7 ?_))
    refine (PL1.out w7 H9.out.2.1).mono ?_
    rintro e w10 ⟨rfl, hb10⟩
    have k10 := H9.out.2.1.trans (hb10.mono H9.out.2.1.size)
    have r0' := (HR.out w10 g _ (HB3.out.beyond k10)).2
    have r8 := blk_range (H9.out.1.beyond hb10)
    have HK := Lib.hid k10
    clear r0 r7 hb10 k10
    go_wp2_with (first | (refine wpl_loadBg BC hbi (by rfl) (.tmp 2) rfl g 0 rfl r0' ?_) | (refine wpl_loadHg (by rfl) (.tmp 8) rfl g8 0 rfl t r8 ?_))
    refine (PL2.out t w10 HT.out.1 HT.out.2.1 HK.out).mono ?_
    rintro e w11 ⟨rfl, hb11⟩
    have HE := Lib.hid (K3.out.trans ((HK.out.trans (hb11.mono HK.out.size)).mono hg3))
    clear hb11 r0' r8
    go_wp2
    exact bodyPost_ret (results_tmp Tryd.results4 _ _ _) rfl ⟨rfl, by first | exact HE.out | (rw [hgw]; exact HE.out)⟩
end Go.Proofs.YtgedpgdefafofaaDoor
end

section
/- The statement VotesHonest where what comes in is of bounded bulk: the law returns true, and its arguments read as before. Condition: the bulk's bound, which the statement itself names. -/
namespace Go.Proofs.YtgedpgdefafofaaDoor
open Go Go.ChangeShapes Go.WideShapes Go.ChangeAt Go.RowKit
set_option linter.unusedVariables false

/-- the arguments that are nothing -/
def zvotesHonestU : Array Value := #[.agg #[.int .u32 0, .int .u8 0, .int .u8 0, .int .u8 0, .int .u8 0, .int .u8 0, .int .u8 0, .int .u8 0, .int .u8 0, .int .u8 0, .int .u8 0, .int .u8 0, .int .u8 0, .int .u8 0, .int .u8 0, .int .u8 0, .int .u8 0, .int .u8 0, .int .u8 0, .int .u8 0, .int .u8 0, .int .u8 0, .int .u8 0, .int .u8 0, .int .u8 0, .int .u8 0, .int .u8 0, .int .u8 0, .int .u8 0, .int .u8 0, .int .u8 0, .int .u8 0, .int .u8 0, .int .u8 0, .int .u8 0, .int .u8 0, .int .u8 0, .int .u8 0, .int .u8 0, .int .u8 0, .int .u8 0, .int .u8 0, .int .u8 0, .int .u8 0, .int .u8 0, .int .u8 0, .int .u8 0, .int .u8 0, .int .u8 0, .int .u8 0, .int .u8 0, .int .u8 0, .int .u8 0, .int .u8 0, .int .u8 0, .int .u8 0, .int .u8 0, .int .u8 0, .int .u8 0, .int .u8 0, .int .u8 0, .int .u8 0, .int .u8 0, .int .u8 0, .int .u8 0, .int .u32 0, .int .u32 0, .int .u32 0, .slice none 0 0], .slice none 0 0]

set_option maxRecDepth 100000 in
/-- The door's own heap meets the condition. -/
theorem door_met_votesHonestU (os : Os) : laidMet Tryd.prog Rows.votesHonestUptoRow.laid ((World.doorLaid Tryd.prog 19 os).forCall (fun _ _ => 0) ⟨#[], zvotesHonestU, []⟩).memory :=
  laidMet_of_run' 8 (by kernel_rfl) (by kernel_rfl)
set_option maxRecDepth 100000 in
theorem door_reads_votesHonestU (os : Os) {H : Type} (enc : TypeId × Value → H) : ∃ places, DataW.whole enc Tryd.prog ((World.doorLaid Tryd.prog 19 os).forCall (fun _ _ => 0) ⟨#[], zvotesHonestU, []⟩).memory Tryd.f4.params.toList Rows.votesHonestSpec.vars false zvotesHonestU.toList 8 = some ([.agg [.agg [.lit (.int .u32 0), .agg (List.replicate 32 (.lit (.int .u8 0))), .agg (List.replicate 32 (.lit (.int .u8 0))), .lit (.int .u32 0), .lit (.int .u32 0), .lit (.int .u32 0)], .nil], .nil], [], places) :=
  ⟨[], by kernel_rfl⟩

set_option maxRecDepth 100000 in
theorem votesHonest_contract (H : Type) (enc : TypeId × Value → H) (W : World) (base : Nat) (args : Array Value) (ds gs : List (DataW H)) (before : List MemPlace)
    (hval0 : ∀ (j : Nat) t v, Tryd.f4.params[j]? = some t → args[j]? = some v → Value.okWide Tryd.prog W .any base t v)
    (hW : DataW.Whole enc Tryd.prog Tryd.f4.params.toList Rows.votesHonestSpec.vars false W args.toList ds gs before) (hk : Rows.uptoSmall H (ds ++ gs) = true) (hL : laidMetH Tryd.prog Rows.votesHonestUptoRow.laid W) :
    Calls Tryd.prog 4 args W fun e W' => ∃ v, e = .returned v ∧ Rows.votesHonestSpec.post enc Tryd.prog Tryd.f4 false true false false W args v W' := by
  have hval : ∀ (j : Nat) t v, Tryd.f4.params[j]? = some t → args[j]? = some v → Value.okWide Tryd.prog W .any base t v := hval0
  have hW' := hW
  obtain ⟨p, q, hA0, hV, rfl, hfz, hnd⟩ := hW
  have hA : DataW.TrodAll enc Tryd.prog W 0 (fun _ => true) true Tryd.f4.params.toList args.toList ds p := hA0
  rw [Tryd.params4] at hA hval
  obtain ⟨v0, vs0, d0, ds0, p0, q0, hargs, rfl, rfl, h0, r0⟩ := trodAll_cons hA
  obtain ⟨v1, vs1, d1, ds1, p1, q1, rfl, rfl, rfl, h1, r1⟩ := trodAll_cons r0
  obtain ⟨rfl, rfl, rfl⟩ := trodAll_nil r1
  obtain rfl : args = #[v0, v1] := by cases args; simp_all
  obtain ⟨rfl, rfl⟩ := trodVars_none hV
  have k0 := h0
  have lt0 : ∀ x ∈ p0, x.block < W.heap.size := by obtain ⟨m, hm⟩ := k0; exact DataW.trod_lt m _ _ _ hm
  have k1 := h1
  have lt1 : ∀ x ∈ p1, x.block < W.heap.size := by obtain ⟨m, hm⟩ := k1; exact DataW.trod_lt m _ _ _ hm
  obtain ⟨B0, rfl, y0⟩ := open_blkU (hval 0 29 v0 rfl rfl) h0 (upto_part hk (by simp))
  obtain ⟨s1', rfl, y1⟩ := open_browsU (hval 1 34 v1 rfl rfl) h1 (upto_part hk (by simp))
  clear hA0 hval0
  refine (honest_walk B0 s1' W (glob_of hL) y0 y1).mono fun e W' ⟨he, bel⟩ => ?_
  subst he
  exact ⟨_, rfl, _, _, _, [], _, [], hW', trodAll_mk1 (shut_bool Tryd.underlying4 _), (trodAll_cons_mk (Below.trod Tryd.laidOut (by kernel_rfl) (of_decide_eq_true (by kernel_rfl)) k0 bel lt0) (trodAll_cons_mk (Below.trod Tryd.laidOut (by kernel_rfl) (of_decide_eq_true (by kernel_rfl)) k1 bel lt1) trodAll_mk0)), rfl, bel.frame _, fun h => by cases h⟩
set_option maxRecDepth 100000 in
theorem votesHonest_liftedUpto (os : Os) (started : os.Started) (H : Type) (enc : TypeId × Value → H) (F : Stop.Interp) :
    ReturnsInHanded {} Tryd.checked os 4 .any ((Rows.OpenSpec.upto Rows.votesHonestSpec).preRow enc Tryd.prog Tryd.f4 Rows.votesHonestUptoRow.domain false Rows.votesHonestUptoRow.laid) (((Rows.OpenSpec.upto Rows.votesHonestSpec).at F).post enc Tryd.prog Tryd.f4 false true false false) := by
  obtain ⟨places, hx⟩ := door_reads_votesHonestU os enc
  refine returnsInHanded_of_row (C := Tryd.checked) (s := Rows.OpenSpec.upto Rows.votesHonestSpec) Tryd.own started (by kernel_rfl) Tryd.func4
    (witness_row_atRef (enc := enc) (C := Tryd.checked) false (World.doorLaid Tryd.prog 19 os) zvotesHonestU rfl (by kernel_rfl) (by kernel_rfl) (by kernel_rfl)
      (OpenSpec.preRow_of_cond 8 hx (by kernel_rfl) (fun k hk => by cases hk; kernel_rfl) (by kernel_rfl) (door_met_votesHonestU os))) ?_
  intro W base args ds gs before hval hW _ hk _ hL _ _
  exact votesHonest_contract H enc W base args ds gs before hval hW (hk _ rfl) hL
theorem votesHonestUpto_holds : Rows.VotesHonestUptoSaid :=
  OpenClaim.holds_of_cond 4 Tryd.f4 rfl rfl rfl rfl rfl rfl rfl ⟨rfl, rfl, rfl, rfl, rfl⟩ rfl rfl rfl rfl rfl (by kernel_rfl) Tryd.func4 (by kernel_rfl)
    (of_decide_eq_true (by kernel_rfl)) (by unfold Func.isWrapper; first | (rw [if_pos (by decide +kernel)]; kernel_rfl) | (rw [if_neg (by decide +kernel)]; exact ⟨rfl, rfl⟩))
    (fun os started H enc _ F => by rw [OpenClaim.pre_eq_preRow]; exact votesHonest_liftedUpto os started H enc F)
set_option maxRecDepth 100000 in
theorem votesHonestUptoCard_holds : Rows.VotesHonestUptoCardSaid :=
  Claim7.holds_tied_plain_at .later [] _ _ _ _ votesHonestUpto_holds (fun _ h => by cases h) (by kernel_rfl) (fun _ h => by cases h) votesHonestUpto_row_tie rfl ⟨rfl, rfl⟩ (by kernel_rfl) rfl
    (fun f fn hf hfn => by
      obtain rfl : f = 4 := Option.some.inj ((show Tryd.prog.funcNamed "sporran/sporranlaw18.VotesHonest" = some 4 by kernel_rfl).symm.trans hf) |>.symm
      obtain rfl : fn = Tryd.f4 := (Option.some.inj (Tryd.func4.symm.trans hfn)).symm
      exact ⟨by kernel_rfl, fun j t ht => by
        rw [Tryd.params4] at ht
        have hm : t ∈ [29, 34] := by simpa using Array.mem_of_getElem? ht
        have hall : ([29, 34].all fun u => !Tryd.prog.wantsStandIn u) = true := by kernel_rfl
        exact (show Tryd.prog.wantsStandIn t = false by simpa using List.all_eq_true.1 hall t hm)⟩)
    (by kernel_rfl)
end Go.Proofs.YtgedpgdefafofaaDoor
end
