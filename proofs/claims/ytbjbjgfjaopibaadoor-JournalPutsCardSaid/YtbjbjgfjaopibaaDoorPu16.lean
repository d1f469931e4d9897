import Derived.Test.YtbjbjgfjaopibaaDoorPu14
import Derived.Test.YtbjbjgfjaopibaaDoorPu15
section
/- journal.do, walked. -/
namespace Go.Proofs.YtbjbjgfjaopibaaDoor
open Go Go.RowKit Go.ChangeShapes Go.WideShapes Go.ChangeAt
set_option linter.unusedSimpArgs false
set_option linter.unusedVariables false
set_option maxRecDepth 100000

/-- where a batch lies -/
def BatIn (N : Nat → Prop) (X : BatchD) : Prop :=
  (0 < X.puts.n → ∀ q, X.puts.a = some q → N q.block) ∧ (0 < X.dels.n → ∀ q, X.dels.a = some q → N q.block) ∧ ∀ i, i < X.puts.n → 0 < (X.puts.x i).val.z.length → ∀ q, (X.puts.x i).val.a = some q → N q.block
theorem BatIn.mono {N M : Nat → Prop} {X : BatchD} (h : BatIn N X) (hm : ∀ g, N g → M g) : BatIn M X :=
  ⟨fun h0 q hq => hm _ (h.1 h0 q hq), fun h0 q hq => hm _ (h.2.1 h0 q hq), fun i hi h0 q hq => hm _ (h.2.2 i hi h0 q hq)⟩
/-- what came in lies in old memory -/
theorem BatOk.old {w : World} {X : BatchD} (h : BatOk w X) : BatIn (fun g => g < w.heap.size) X := by
  refine ⟨fun h0 q hq => ?_, fun h0 q hq => ?_, fun i hi h0 q hq => ?_⟩
  · obtain ⟨b, o, e, _, hc, _⟩ := h.1.2.2.2 0 h0
    rw [hq] at e; cases e
    exact cell_lt (hc 0 (by simp [pairCs]))
  · obtain ⟨b, o, e, _, hc, _⟩ := h.2.2.2.2 0 h0
    rw [hq] at e; cases e
    exact cell_lt (hc 0 (by simp [strCs]))
  · obtain ⟨b, o, e, _, _, hok⟩ := h.1.2.2.2 i hi
    exact hok.2.1.there q hq h0
/-- one put's cells, where its value lies; one delete's -/
theorem BatOk.put {w w' : World} {X : BatchD} {Y N : Nat → Prop} (h : BatOk w X) (hn : BatIn N X) (hk : Keep Y w w') (hy : ∀ g, N g → ¬ Y g) {i : Nat} (hi : i < X.puts.n) :
    ∃ b o, X.puts.a = some ⟨b, o, none⟩ ∧ w'.cell? ⟨b, o + i * 2, none⟩ = some (.string (X.puts.x i).key) ∧ w'.cell? ⟨b, o + i * 2 + 1, none⟩ = some (X.puts.x i).val.cell ∧ (X.puts.x i).key.size ≤ MB ∧
      Lib.BytesIn w' (X.puts.x i).val.a (X.puts.x i).val.z.length (X.puts.x i).val.z ∧ (X.puts.x i).val.z.length ≤ MB := by
  obtain ⟨b, o, e, _, hc, hok⟩ := h.1.2.2.2 i hi
  have hb : ¬ Y b := hy _ (hn.1 (by omega) _ e)
  have c0 := hc 0 (by simp [pairCs])
  have c1 := hc 1 (by simp [pairCs])
  refine ⟨b, o, e, ?_, ?_, hok.1, bytes_keep hok.2.1.bytes hk (fun h0 q hq => hy _ (hn.2.2 i hi h0 q hq)), hok.2.2⟩
  · exact (hk.cell (p := ⟨b, o + i * 2, none⟩) (cell_lt c0) hb).trans c0
  · exact (hk.cell (p := ⟨b, o + i * 2 + 1, none⟩) (cell_lt c1) hb).trans c1
theorem BatOk.del {w w' : World} {X : BatchD} {Y N : Nat → Prop} (h : BatOk w X) (hn : BatIn N X) (hk : Keep Y w w') (hy : ∀ g, N g → ¬ Y g) {i : Nat} (hi : i < X.dels.n) :
    ∃ b o, X.dels.a = some ⟨b, o, none⟩ ∧ w'.cell? ⟨b, o + i, none⟩ = some (.string (X.dels.x i)) ∧ (X.dels.x i).size ≤ MB := by
  obtain ⟨b, o, e, _, hc, hok⟩ := h.2.2.2.2 i hi
  have hb : ¬ Y b := hy _ (hn.2.1 (by omega) _ e)
  have c0 := hc 0 (by simp [strCs])
  rw [Nat.mul_one] at c0
  exact ⟨b, o, e, (hk.cell (p := ⟨b, o + i, none⟩) (cell_lt c0) hb).trans c0, hok⟩
/-- the contents behind k puts; behind all of them and k deletes -/
def do1 (l : KV) (X : BatchD) (k : Nat) : KV := ((List.range k).map (putX X)).foldl (fun l p => putK l p.1 p.2) l
def do2 (l : KV) (X : BatchD) (k : Nat) : KV := ((List.range k).map (delX X)).foldl delK (do1 l X X.puts.n)
theorem do1_succ (l : KV) (X : BatchD) (k : Nat) : do1 l X (k + 1) = putK (do1 l X k) (bsK (X.puts.x k).key) (X.puts.x k).val.z := by unfold do1; rw [List.range_succ, List.map_append, List.foldl_append]; rfl
theorem do2_succ (l : KV) (X : BatchD) (k : Nat) : do2 l X (k + 1) = delK (do2 l X k) (bsK (X.dels.x k)) := by unfold do2; rw [List.range_succ, List.map_append, List.foldl_append]; rfl
theorem do2_all (l : KV) (X : BatchD) : do2 l X X.dels.n = doK l (batX X) := rfl
theorem do1_srt {l : KV} (h : Srt l) (X : BatchD) (k : Nat) : Srt (do1 l X k) := by
  induction k with
  | zero => exact h
  | succ k ih => rw [do1_succ]; exact ih.put _ _
theorem do2_srt {l : KV} (h : Srt l) (X : BatchD) (k : Nat) : Srt (do2 l X k) := by
  induction k with
  | zero => exact do1_srt h X _
  | succ k ih => rw [do2_succ]; exact ih.del _
theorem do1_len {l : KV} (h : Srt l) (X : BatchD) (k : Nat) : (do1 l X k).length ≤ l.length + k := by
  induction k with
  | zero => exact Nat.le_refl _
  | succ k ih => rw [do1_succ]; have := putK_le (do1_srt h X k) (bsK (X.puts.x k).key) (X.puts.x k).val.z; omega
theorem do2_len {l : KV} (h : Srt l) (X : BatchD) (k : Nat) : (do2 l X k).length ≤ l.length + X.puts.n := by
  induction k with
  | zero => exact do1_len h X _
  | succ k ih => rw [do2_succ]; have := delK_le (l := do2 l X k) (bsK (X.dels.x k)); omega
theorem doK_len {l : KV} (h : Srt l) (X : BatchD) : (doK l (batX X)).length ≤ l.length + X.puts.n := by rw [← do2_all]; exact do2_len h X _
/-- what 'do' does -/
def DoPost (j b : Nat) (tv hv : Value) (n : Nat) (l : KV) (N : Nat → Prop) (X : BatchD) (w : World) (w' : World) : Prop :=
  Keep (fun k => k = j ∨ k = b) w w' ∧ Blk w' j #[tv, .map (some b), .int .i64 ((n + 1 : Nat) : Int), hv] 30 ∧ JMap (fun g => N g ∨ w.heap.size ≤ g) w' b (doK l (batX X))
set_option maxHeartbeats 12800000 in
theorem pdo (j b : Nat) (tv hv : Value) (n : Nat) (l : KV) (N : Nat → Prop) (X : BatchD) (w : World) (hB : Blk w j #[tv, .map (some b), .int .i64 (n : Int), hv] 30) (hM : JMap N w b l) (hs : Srt l) (hl : l.length + X.puts.n ≤ 140737488351232) (hn : n < 4611686018427387904)
    (hN : ∀ g, N g → g ≠ j ∧ g ≠ b) (hjb : j ≠ b) (hX : BatOk w X) (hXN : BatIn (fun g => g ≠ j ∧ g ≠ b) X) :
    Calls Tryd.prog 34 #[.pointer (some ⟨j, 0, none⟩), .agg #[.slice X.puts.a X.puts.n X.puts.c, .slice X.dels.a X.dels.n X.dels.c]] w fun e w' => e = .returned (.tuple #[]) ∧ DoPost j b tv hv n l N X w w' := by
  have hjl : j < w.heap.size := hB.lt
  have hbl : b < w.heap.size := hM.lt
  have hpn : X.puts.n ≤ 140737488351232 := hX.1.2.1.1
  have hdn : X.dels.n ≤ 140737488351232 := hX.2.2.1.1
  have k0 := (Keep.refl (fun _ => False) w).alloc (.cells #[.slice X.puts.a X.puts.n X.puts.c, .slice X.dels.a X.dels.n X.dels.c] 25)
  have bn := Blk.new w #[.slice X.puts.a X.puts.n X.puts.c, .slice X.dels.a X.dels.n X.dels.c] 25
  have c0 := bn.cell 0
  have c1 := bn.cell 1
  have HW := Lib.hid (And.intro hB (And.intro hM (And.intro hs (And.intro hl (And.intro hn (And.intro hN (And.intro hjb (And.intro hX (And.intro hXN (And.intro k0 bn))))))))))
  obtain ⟨pn, hpn'⟩ : ∃ pn, pn = X.puts.n := ⟨_, rfl⟩
  obtain ⟨dn, hdn'⟩ : ∃ dn, dn = X.dels.n := ⟨_, rfl⟩
  obtain ⟨pa, hpa⟩ : ∃ pa, pa = X.puts.a := ⟨_, rfl⟩
  obtain ⟨da, hda⟩ : ∃ da, da = X.dels.a := ⟨_, rfl⟩
  rw [← hpn', ← hdn', ← hpa, ← hda] at bn c0 c1 ⊢
  rw [← hpn'] at hpn hl
  rw [← hdn'] at hdn
  have HN := Lib.hid (And.intro hpn' (And.intro hdn' (And.intro hpa hda)))
  clear hB hM hs hl hn hN hjb hX hXN k0 bn hpn' hdn' hpa hda
  generalize X.puts.c = pc at *
  generalize X.dels.c = dc at *
  go_enter Tryd.func34, Tryd.ntmps34
  go_upto_region 1 with fail
  generalize hWd : w.alloc (.cells #[.slice pa pn pc, .slice da dn dc] 25) = W at *
  have hW0 : Keep (fun _ => False) w W := by rw [← hWd]; exact (Keep.refl (fun _ => False) w).alloc _
  have hWs : W.heap.size = w.heap.size + 1 := by rw [← hWd]; simp
  have bW : Blk W w.heap.size #[.slice pa pn pc, .slice da dn dc] 25 := by rw [← hWd]; exact Blk.new w _ _
  have hXW : ∀ wx, Keep (fun k => k = b) W wx → Keep (fun k => k = j ∨ k = b) w wx := fun wx hk => (hW0.mono (Y := fun k => k = j ∨ k = b) (fun _ h => h.elim)).trans (hk.mono fun k e => .inr e)
  have HXW := Lib.hid (And.intro hXW (And.intro hW0 (And.intro hWs bW)))
  clear hWd hW0 hWs hXW bW
  generalize hgw : w.heap.size = g at *
  have hM0 : JMap (fun k => N k ∨ g ≤ k) W b (do1 l X 0) := (HW.out.2.1.keep HXW.out.2.1 (fun h => h) (fun _ _ _ h => h)).mono (fun k h _ => .inl h)
  have HM0 := Lib.hid hM0
  have hN' : ∀ k, (N k ∨ g ≤ k) → k ≠ b := fun k h => h.elim (fun h => (HW.out.2.2.2.2.2.1 k h).2) (fun h => by omega)
  have HNN := Lib.hid hN'
  clear hM0 hN'
  go_wp2
  go_loopg [11] pn (fun gh i wx => ∃ k : Nat, k ≤ pn ∧ i = .int .i64 (k : Int) ∧ gh = pn - k ∧ Hid (JMap (fun k => N k ∨ g ≤ k) wx b (do1 l X k) ∧ Keep (fun k => k = b) W wx))
  case atStart => exact ⟨0, Nat.zero_le _, rfl, rfl, HM0.out, Keep.refl _ _⟩
  case round =>
    obtain ⟨k, hk, rfl, hg, HK⟩ := hrel
    have HG := Lib.hid hg
    clear hg c1
    have bJ := HK.out.2.blk (HXW.out.2.1.blk HW.out.1 (fun h => h)) (show ¬ j = b from HW.out.2.2.2.2.2.2.1)
    by_cases hlt : k < pn
    · obtain ⟨bb, off, ha, t0, t1, hks, hby, hvl⟩ := BatOk.put HW.out.2.2.2.2.2.2.2.1 HW.out.2.2.2.2.2.2.2.2.1 (HXW.out.1 _ HK.out.2) (fun k h e => e.elim h.1 h.2) (i := k) (by rw [← HN.out.1]; exact hlt)
      have hd := do1_succ l X k
      rw [← HN.out.2.2.1] at ha
      subst ha
      generalize X.puts.x k = xp at *
      obtain ⟨key, ⟨va, vc, vz⟩⟩ := xp
      change wr.cell? ⟨bb, off + k * 2 + 1, none⟩ = some (.slice va vz.length vc) at t1
      have hks : key.size ≤ 140737488351232 := hks
      have hvl : vz.length ≤ 140737488351232 := hvl
      have hby : Lib.BytesIn wr va vz.length vz := hby
      have t0 : wr.cell? ⟨bb, off + k * 2, none⟩ = some (.string key) := t0
      have bx := Blk.new wr #[.string key, .slice va vz.length vc] 55
      have kx := (Keep.refl (fun _ => False) wr).alloc (.cells #[.string key, .slice va vz.length vc] 55)
      obtain ⟨z, hz⟩ : ∃ z, z = vz.length := ⟨_, rfl⟩
      rw [← hz] at t1 bx kx hvl
      have HZ := Lib.hid hz
      have HH := Lib.hid (And.intro hd (And.intro hby (And.intro kx (And.intro bx bJ))))
      clear hd hby kx bx bJ hz
      go_upto_region 4 with fail
      clear t0 t1
      generalize wr.alloc (.cells #[.string key, .slice va z vc] 55) = w4 at *
      generalize hgx : wr.heap.size = gx at *
      have PC := clone_arg va vc vz w4.drew (bytes_keep (bytes_keep HH.out.2.1 HH.out.2.2.1 (fun _ _ _ h => h)) ((Keep.refl (fun _ => False) w4).drew) (fun _ _ _ h => h)) (by rw [← HZ.out]; omega)
      rw [← HZ.out] at PC
      have PC := Lib.hid PC
      have cj : w4.drew.cell? ⟨j, 1, none⟩ = some (.map (some b)) := (HH.out.2.2.1.blk HH.out.2.2.2.2 (fun h => h)).cell 1
      have cx0 : w4.drew.cell? ⟨gx, 0, none⟩ = some (.string key) := HH.out.2.2.2.1.cell 0
      have cx1 : w4.drew.cell? ⟨gx, 1, none⟩ = some (.slice va z vc) := HH.out.2.2.2.1.cell 1
      have hjw : j < w4.drew.heap.size := (HH.out.2.2.1.blk HH.out.2.2.2.2 (fun h => h)).lt
      have hgxw : gx < w4.drew.heap.size := HH.out.2.2.2.1.lt
      have HLT := Lib.hid (And.intro hjw hgxw)
      clear hjw hgxw
      go_upto_region 4 with fail
      refine wp_region_last 9 (fun w' => w'.cell? ⟨j, 1, none⟩ = some (.map (some b)) ∧ w'.cell? ⟨gx, 0, none⟩ = some (.string key) ∧ w'.cell? ⟨gx, 1, none⟩ = some (.slice va z vc)) (by kernel_rfl) ⟨cj, cx0, cx1⟩ (fun hS => ?_)
      refine wpAnyL_take (i := 0) (oi := ⟨_, _, _, _, _, _⟩) (v := ?_) rfl (by kernel_rfl) (by kernel_rfl) (by kernel_rfl) (by kernel_rfl) (fun _ _ _ h => h) (Or.inl ⟨by rfl, ?_⟩) hS ?_
      rotate_left
      · intro w0 hs; obtain ⟨s1, s2, s3⟩ := hs; go_simp; try (with_reducible rfl)
      try simp only [Act.put, List.setIfInBounds_toArray, List.set_cons_zero, List.set_cons_succ]
      refine wpAnyL_take (i := 1) (oi := ⟨_, _, _, _, _, _⟩) (v := ?_) rfl (by kernel_rfl) (by kernel_rfl) (by kernel_rfl) (by kernel_rfl) (fun _ _ _ h => h) (Or.inl ⟨by rfl, ?_⟩) hS ?_
      rotate_left
      · intro w0 hs; obtain ⟨s1, s2, s3⟩ := hs; go_simp; try (with_reducible rfl)
      try simp only [Act.put, List.setIfInBounds_toArray, List.set_cons_zero, List.set_cons_succ]
      refine wpAnyL_take (i := 2) (oi := ⟨_, _, _, _, _, _⟩) (v := ?_) rfl (by kernel_rfl) (by kernel_rfl) (by kernel_rfl) (by kernel_rfl) (fun _ _ _ h => h) (Or.inl ⟨by rfl, ?_⟩) hS ?_
      rotate_left
      · intro w0 hs; obtain ⟨s1, s2, s3⟩ := hs; go_simp; try (with_reducible rfl)
      try simp only [Act.put, List.setIfInBounds_toArray, List.set_cons_zero, List.set_cons_succ]
      refine wpAnyL_take (i := 3) (oi := ⟨_, _, _, _, _, _⟩) (v := ?_) rfl (by kernel_rfl) (by kernel_rfl) (by kernel_rfl) (by kernel_rfl) (fun _ _ _ h => h) (Or.inl ⟨by rfl, ?_⟩) hS ?_
      rotate_left
      · intro w0 hs; obtain ⟨s1, s2, s3⟩ := hs; go_simp; try (with_reducible rfl)
      try simp only [Act.put, List.setIfInBounds_toArray, List.set_cons_zero, List.set_cons_succ]
      refine wpAnyL_take (i := 4) (oi := ⟨_, _, _, _, _, _⟩) (v := ?_) rfl (by kernel_rfl) (by kernel_rfl) (by kernel_rfl) (by kernel_rfl) (fun _ _ _ h => h) (Or.inl ⟨by rfl, ?_⟩) hS ?_
      rotate_left
      · intro w0 hs; obtain ⟨s1, s2, s3⟩ := hs; go_simp; try (with_reducible rfl)
      try simp only [Act.put, List.setIfInBounds_toArray, List.set_cons_zero, List.set_cons_succ]
      refine wpAnyL_take (i := 5) (oi := ⟨_, _, _, _, _, _⟩) (v := ?_) rfl (by kernel_rfl) (by kernel_rfl) (by kernel_rfl) (by kernel_rfl) (fun _ _ _ h => h) (Or.inl ⟨by rfl, ?_⟩) hS ?_
      rotate_left
      · intro w0 hs; obtain ⟨s1, s2, s3⟩ := hs; go_simp; try (with_reducible rfl)
      try simp only [Act.put, List.setIfInBounds_toArray, List.set_cons_zero, List.set_cons_succ]
      refine wpAnyL_take (i := 6) (oi := ⟨_, _, _, _, _, _⟩) (v := ?_) rfl (by kernel_rfl) (by kernel_rfl) (by kernel_rfl) (by kernel_rfl) (fun _ _ _ h => h) (Or.inl ⟨by rfl, ?_⟩) hS ?_
      rotate_left
      · intro w0 hs; obtain ⟨s1, s2, s3⟩ := hs; go_simp; try (with_reducible rfl)
      try simp only [Act.put, List.setIfInBounds_toArray, List.set_cons_zero, List.set_cons_succ]
      refine wpAnyL_take (i := 7) (oi := ⟨_, _, _, _, _, _⟩) (v := ?_) rfl (by kernel_rfl) (by kernel_rfl) (by kernel_rfl) (by kernel_rfl) (fun _ _ _ h => h) (Or.inl ⟨by rfl, ?_⟩) hS ?_
      rotate_left
      · intro w0 hs; obtain ⟨s1, s2, s3⟩ := hs; go_simp; try (with_reducible rfl)
      try simp only [Act.put, List.setIfInBounds_toArray, List.set_cons_zero, List.set_cons_succ]
      refine wpAnyL_one (i := 8) (oi := ⟨_, _, _, _, _, _⟩) rfl (by kernel_rfl) (fun K hK => ?_)
      rw [if_pos (by rfl)]
      go_step
      refine PC.out.mono ?_
      rintro e w5 ⟨q5, c5, o5, rfl, R5, ho5, hb5⟩
      simp only []
      have hS' := (And.intro ((hb5.cell (p := ⟨j, 1, none⟩) HLT.out.1).trans hS.1) (And.intro ((hb5.cell (p := ⟨gx, 0, none⟩) HLT.out.2).trans hS.2.1) ((hb5.cell (p := ⟨gx, 1, none⟩) HLT.out.2).trans hS.2.2)))
      refine hK.out _ _ (.inr hS') ?_
      clear hS hK
      have hS := hS'; clear hS'
      try simp only [Act.put, List.setIfInBounds_toArray, List.set_cons_zero, List.set_cons_succ]
      refine wpAnyL_one (i := 9) (oi := ⟨_, _, _, _, _, _⟩) rfl (by kernel_rfl) (fun K hK => ?_)
      rw [if_pos (by rfl)]
      have hgw4 : g + 1 ≤ wr.heap.size := by have := HK.out.2.size; have := HXW.out.2.2.1; omega
      have h4 : wr.heap.size ≤ w4.heap.size := HH.out.2.2.1.size
      have hd4 : w4.drew.heap.size = w4.heap.size := rfl
      have kk5 : Keep (fun _ => False) wr w5 := (HH.out.2.2.1.drew).trans (Keep.of_below hb5)
      have M5 := HK.out.1.keep kk5 (fun h => h) (fun _ _ _ h => h)
      obtain ⟨w6, run6, M6, k6⟩ := M5.store (do1_srt HW.out.2.2.1 X k) (by have := do1_len HW.out.2.2.1 X k; have := HW.out.2.2.2.1; have := HN.out.1; omega) key hks R5 (fun k hk => .inr (by have := ho5 k hk; omega)) HNN.out
      rw [← HH.out.1] at M6
      have H6 := Lib.hid (And.intro M6 (((HK.out.2.trans (kk5.mono (fun _ h => h.elim))).trans k6) : Keep (fun k => k = b) W w6))
      clear M6 k6 M5 kk5 h4 hd4 R5 ho5 hb5
      go_simp
      refine hK.out _ _ (.inl rfl) ?_
      clear hK
      try simp only [Act.put, List.setIfInBounds_toArray, List.set_cons_zero, List.set_cons_succ]
      refine wpAnyL_done (by kernel_rfl) ?_ _
      clear HH PC cj cx0 cx1 HLT hS run6
      go_wp2
      go_roundg (pn - (k + 1))
      case measure => rw [HG.out]; omega
      case rel => exact ⟨k + 1, hlt, by go_num, rfl, H6.out⟩
    · obtain rfl : k = pn := by omega
      have hM1 : JMap (fun k => N k ∨ g ≤ k) wr b (do2 l X 0) := by have h := HK.out.1; rw [HN.out.1] at h; exact h
      have HM1 := Lib.hid hM1
      have c1' : wr.cell? ⟨g, 1, none⟩ = some (.slice da dn dc) := (HK.out.2.blk HXW.out.2.2.2 (by omega)).cell 1
      clear hM1
      go_wp2
      go_loopg [28] dn (fun gh i wx => ∃ k : Nat, k ≤ dn ∧ i = .int .i64 (k : Int) ∧ gh = dn - k ∧ Hid (JMap (fun k => N k ∨ g ≤ k) wx b (do2 l X k) ∧ Keep (fun k => k = b) W wx))
      case atStart => exact ⟨0, Nat.zero_le _, rfl, rfl, HM1.out, HK.out.2⟩
      case round =>
        clear HK HG bJ hlt
        obtain ⟨k, hk, rfl, hg, HK⟩ := hrel
        have HG := Lib.hid hg
        clear hg c1'
        have bJ := HK.out.2.blk (HXW.out.2.1.blk HW.out.1 (fun h => h)) (show ¬ j = b from HW.out.2.2.2.2.2.2.1)
        have cj1 := bJ.cell 1
        have cj2 := bJ.cell 2
        have fj2 := bJ.free 2
        have HBJ := Lib.hid bJ
        clear bJ
        by_cases hlt : k < dn
        · obtain ⟨bb, off, ha, t0, hks⟩ := BatOk.del HW.out.2.2.2.2.2.2.2.1 HW.out.2.2.2.2.2.2.2.2.1 (HXW.out.1 _ HK.out.2) (fun k h e => e.elim h.1 h.2) (i := k) (by rw [← HN.out.2.1]; exact hlt)
          have hd := do2_succ l X k
          rw [← HN.out.2.2.2] at ha
          subst ha
          generalize X.dels.x k = key at *
          have hks : key.size ≤ 140737488351232 := hks
          obtain ⟨w6, run6, M6, k6⟩ := HK.out.1.drop (do2_srt HW.out.2.2.1 X k) key hks HNN.out 0
          rw [← hd] at M6
          have H6 := Lib.hid (And.intro M6 (HK.out.2.trans k6))
          clear M6 k6 hd
          go_wp2
          go_roundg (dn - (k + 1))
          case measure => rw [HG.out]; omega
          case rel => exact ⟨k + 1, hlt, by go_num, rfl, H6.out⟩
        · obtain rfl : k = dn := by omega
          have b8 : Blk (wr.setCell ⟨j, 2, none⟩ (.int .i64 ((n + 1 : Nat) : Int))) j #[tv, .map (some b), .int .i64 ((n + 1 : Nat) : Int), hv] 30 := HBJ.out.set 2 _
          have k8 : Keep (fun k => k = j) wr (wr.setCell ⟨j, 2, none⟩ (.int .i64 ((n + 1 : Nat) : Int))) := Keep.set (X := fun k => k = j) (Keep.refl _ wr) (p := ⟨j, 2, none⟩) (.inl rfl) _
          have M8 := (HK.out.1.keep k8 (fun e => HW.out.2.2.2.2.2.2.1 e.symm) (fun x h _ e => h.elim (fun h => (HW.out.2.2.2.2.2.1 x h).1 e) (fun h => by omega)))
          have kk8 : Keep (fun k => k = j ∨ k = b) w (wr.setCell ⟨j, 2, none⟩ (.int .i64 ((n + 1 : Nat) : Int))) := (HXW.out.1 _ HK.out.2).trans (k8.mono fun k e => .inl e)
          rw [HN.out.2.1] at M8
          have H8 := Lib.hid (And.intro kk8 (And.intro b8 M8))
          have hn1 : IntKind.i64.wrap ((n : Int) + 1) = ((n + 1 : Nat) : Int) := by rw [IntWalk.i64_in _ (by have := HW.out.2.2.2.2.1; omega)]; omega
          clear b8 k8 M8 kk8
          go_wp2
          go_end0
          exact ⟨rfl, H8.out.1, H8.out.2.1, by rw [← do2_all, hgw]; exact H8.out.2.2⟩
end Go.Proofs.YtbjbjgfjaopibaaDoor
end

section
/- The journal's questions: none, Get, Batches, Halted. -/
namespace Go.Proofs.YtbjbjgfjaopibaaDoor
open Go Go.RowKit
set_option linter.unusedSimpArgs false
set_option linter.unusedVariables false
set_option maxRecDepth 100000

theorem jnone (j : Nat) (t : Addr) (w : World) (h : w.cell? ⟨j, 0, none⟩ = some (.pointer (some t))) : Calls Tryd.prog 27 #[.pointer (some ⟨j, 0, none⟩)] w fun e w' => e = .returned (.bool false) ∧ w' = w := by
  go_enter Tryd.func27, Tryd.ntmps27
  go_wp2
  go_ret
  exact ⟨rfl, rfl⟩
theorem jbatches (j : Nat) (t : Addr) (mv hv : Value) (n : Int) (w : World) (h : Blk w j #[.pointer (some t), mv, .int .i64 n, hv] 30) : Calls Tryd.prog 11 #[.pointer (some ⟨j, 0, none⟩)] w fun e w' => e = .returned (.int .i64 n) ∧ w' = w := by
  have PN := Lib.hid (jnone j t w (h.cell 0))
  have c2 : w.cell? ⟨j, 2, none⟩ = some (.int .i64 n) := h.cell 2
  go_enter Tryd.func11, Tryd.ntmps11
  go_wp2_with (refine PN.out.mono ?_; rintro e w' ⟨rfl, rfl⟩)
  go_ret
  exact ⟨rfl, rfl⟩
theorem jhalted (j : Nat) (t : Addr) (mv nv : Value) (b : Bool) (w : World) (h : Blk w j #[.pointer (some t), mv, nv, .bool b] 30) : Calls Tryd.prog 12 #[.pointer (some ⟨j, 0, none⟩)] w fun e w' => e = .returned (.bool b) ∧ w' = w := by
  have PN := Lib.hid (jnone j t w (h.cell 0))
  have c3 : w.cell? ⟨j, 3, none⟩ = some (.bool b) := h.cell 3
  go_enter Tryd.func12, Tryd.ntmps12
  go_wp2_with (refine PN.out.mono ?_; rintro e w' ⟨rfl, rfl⟩)
  go_ret
  exact ⟨rfl, rfl⟩
set_option maxHeartbeats 1600000 in
theorem jget (j b : Nat) (t : Addr) (nv hv : Value) (l : KV) (N : Nat → Prop) (s : ByteArray) (w : World) (h : Blk w j #[.pointer (some t), .map (some b), nv, hv] 30) (hM : JMap N w b l) (hs : s.size ≤ 140737488351232) (hl : ((getK l (bsK s)).getD []).length ≤ 140737488351232) :
    Calls Tryd.prog 8 #[.pointer (some ⟨j, 0, none⟩), .string s] w fun e w' => ∃ q c o, e = .returned (.tuple #[.slice q ((getK l (bsK s)).getD []).length c, .bool (getK l (bsK s)).isSome]) ∧ Row w' 5 (.slice q ((getK l (bsK s)).getD []).length c) ((getK l (bsK s)).getD []) o ∧ (∀ g, o = some g → w.heap.size ≤ g) ∧ Below w.heap.size w w' := by
  have PN := Lib.hid (jnone j t w (h.cell 0))
  have c1 : w.cell? ⟨j, 1, none⟩ = some (.map (some b)) := h.cell 1
  obtain ⟨v, o, run1, R, ho⟩ := hM.look s hs
  have PC := clone_row v ((getK l (bsK s)).getD []) o w R (by omega)
  generalize (getK l (bsK s)).getD [] = z at *
  generalize (getK l (bsK s)).isSome = is at *
  have PC := Lib.hid PC
  clear hM R h hl
  go_enter Tryd.func8, Tryd.ntmps8
  go_wp2_with (first | (refine PN.out.mono ?_; rintro e w' ⟨rfl, rfl⟩) | fail)
  refine PC.out.mono ?_
  rintro e w1 ⟨q, c, o', rfl, R1, ho1, hb1⟩
  obtain ⟨zl, hzl⟩ : ∃ zl, zl = z.length := ⟨_, rfl⟩
  have HF := Lib.hid (And.intro R1 (And.intro ho1 (And.intro hb1 hzl)))
  rw [← hzl]
  clear R1 ho1 hb1 hzl
  go_wp2
  exact bodyPost_ret (results_tmp2 Tryd.results8 _ _ _) rfl ⟨q, c, o', by rw [← HF.out.2.2.2]; rfl, HF.out.1, HF.out.2.1, HF.out.2.2.1⟩
end Go.Proofs.YtbjbjgfjaopibaaDoor
end

section
/- The journal in memory; batches out of lists that were read. -/
namespace Go.Proofs.YtbjbjgfjaopibaaDoor
open Go Go.RowKit Go.ChangeShapes Go.WideShapes Go.ChangeAt
set_option linter.unusedSimpArgs false
set_option linter.unusedVariables false
set_option maxRecDepth 100000

theorem Glob.keepX {X : Nat → Prop} {B : Nat} {w w' : World} (g : Glob w) (hk : Keep X w w') (hB : 0 < B ∧ 1 < B) (hx : ∀ k, X k → B ≤ k) : Glob w' :=
  ⟨fun i hi => (hk.cell (p := ⟨0, i, none⟩) (cell_lt (g.1 i hi)) (fun e => by have := hx _ e; simp only at this; omega)).trans (g.1 i hi), fun i hi => (hk.cell (p := ⟨1, i, none⟩) (cell_lt (g.2 i hi)) (fun e => by have := hx _ e; simp only at this; omega)).trans (g.2 i hi)⟩
theorem Glob.lt {w : World} (g : Glob w) : 0 < w.heap.size ∧ 1 < w.heap.size := ⟨cell_lt (g.1 0 (by decide)), cell_lt (g.2 0 (by decide))⟩
/-- a batch, of lists -/
def batL (pq : Option Addr) (pn : Nat) (X : List PairD) (dq : Option Addr) (dn : Nat) (Y : List ByteArray) : BatchD := ⟨⟨pq, X.length, pn, fun i => X.getD i ⟨⟨#[]⟩, ⟨none, 0, []⟩⟩⟩, ⟨dq, Y.length, dn, fun i => Y.getD i ⟨#[]⟩⟩⟩
theorem batL_x (pq : Option Addr) (pn : Nat) (X : List PairD) (dq : Option Addr) (dn : Nat) (Y : List ByteArray) : batX (batL pq pn X dq dn Y) = ⟨X.map pairX, Y.map bsK⟩ := by
  unfold batX batL
  simp only [BatD.mk.injEq]
  constructor
  · refine List.ext_getElem (by simp) fun i h1 h2 => ?_
    simp at h2
    simp [List.getD_eq_getElem?_getD, h2, pairX]
  · refine List.ext_getElem (by simp) fun i h1 h2 => ?_
    simp at h2
    simp [List.getD_eq_getElem?_getD, h2]
theorem batL_ok {w : World} {G : Nat} {pq dq : Option Addr} {pn dn : Nat} {X : List PairD} {Y : List ByteArray} (hp : LstAt pairK 55 w G (.slice pq X.length pn) X) (hd : LstAt strK 9 w G (.slice dq Y.length dn) Y) (hx : X.length ≤ 20000) (hy : Y.length ≤ 20000) :
    BatOk w (batL pq pn X dq dn Y) ∧ BatIn (fun g => G ≤ g ∧ g < w.heap.size) (batL pq pn X dq dn Y) := by
  obtain ⟨o1, a1, a2, a3⟩ := hp
  obtain ⟨o2, b1, b2, b3⟩ := hd
  obtain ⟨_, _, e1, l1, m1, f1⟩ := a1.form
  cases e1
  obtain ⟨_, _, e2, l2, m2, f2⟩ := b1.form
  cases e2
  have m1 : pn ≤ 9223372036854775807 := by unfold maxLen at m1; omega
  have m2 : dn ≤ 9223372036854775807 := by unfold maxLen at m2; omega
  have hX : ∀ i, i < X.length → X.getD i ⟨⟨#[]⟩, ⟨none, 0, []⟩⟩ ∈ X := fun i hi => by rw [List.getD_eq_getElem?_getD, List.getElem?_eq_getElem hi]; exact List.getElem_mem hi
  refine ⟨⟨⟨l1, ⟨by show X.length ≤ 140737488351232; omega, m1⟩, fun e => ?_, fun i hi => ?_⟩, ⟨l2, ⟨by show Y.length ≤ 140737488351232; omega, m2⟩, fun e => ?_, fun i hi => ?_⟩⟩, ⟨fun h0 q hq => ?_, fun h0 q hq => ?_, fun i hi h0 q hq => ?_⟩⟩
  · rcases f1 with ⟨_, _, h, _⟩ | ⟨g, _, h, _⟩
    · exact h
    · have e' : pq = none := e
      rw [e'] at h; cases h
  · have hi' : i < X.length := hi
    obtain ⟨g, cap, ho, hv, _, _, hg, hc, _⟩ := a1.mem (by omega)
    cases hv
    have hat := a3 _ (hX i hi')
    refine ⟨g, 0, rfl, by rfl, fun u hu => ?_, hat.1, hat.2.1⟩
    have hu2 : u < 2 := hu
    have e3 := flat_get pairK X i u hi' hu2
    have e4 := hc (i * 2 + u) (by show i * 2 + u < X.length * 2; omega)
    rw [Nat.zero_add, e4]
    show (X.flatMap pairK.cs)[i * pairK.k + u]? = _
    rw [e3]
    show (pairCs X[i])[u]? = (pairCs (X.getD i ⟨⟨#[]⟩, ⟨none, 0, []⟩⟩))[u]?
    rw [List.getD_eq_getElem?_getD, List.getElem?_eq_getElem hi']
    rfl
  · rcases f2 with ⟨_, _, h, _⟩ | ⟨g, _, h, _⟩
    · exact h
    · have e' : dq = none := e
      rw [e'] at h; cases h
  · have hi' : i < Y.length := hi
    obtain ⟨g, cap, ho, hv, _, _, hg, hc, _⟩ := b1.mem (by omega)
    cases hv
    have hat := b3 (Y.getD i ⟨#[]⟩) (by rw [List.getD_eq_getElem?_getD, List.getElem?_eq_getElem hi']; exact List.getElem_mem hi')
    refine ⟨g, 0, rfl, by rfl, fun u hu => ?_, hat⟩
    have hu2 : u < 1 := hu
    have e3 := flat_get strK Y i u hi' hu2
    have e4 := hc (i * 1 + u) (by show i * 1 + u < Y.length * 1; omega)
    rw [Nat.zero_add, e4]
    show (Y.flatMap strK.cs)[i * strK.k + u]? = _
    rw [e3]
    show (strCs Y[i])[u]? = (strCs (Y.getD i ⟨#[]⟩))[u]?
    rw [List.getD_eq_getElem?_getD, List.getElem?_eq_getElem hi']
    rfl
  · have h0' : 0 < X.length := h0
    obtain ⟨g, cap, ho, hv, _, _, hg, hc, _⟩ := a1.mem (by omega)
    cases hv
    have hq' : (some ⟨g, 0, none⟩ : Option Addr) = some q := hq
    cases hq'
    exact ⟨a2 _ ho, hg⟩
  · have h0' : 0 < Y.length := h0
    obtain ⟨g, cap, ho, hv, _, _, hg, hc, _⟩ := b1.mem (by omega)
    cases hv
    have hq' : (some ⟨g, 0, none⟩ : Option Addr) = some q := hq
    cases hq'
    exact ⟨b2 _ ho, hg⟩
  · have hat := a3 _ (hX i hi)
    exact ⟨(hat.2.2 q hq).1, (hat.2.2 q hq).2.1⟩
/-- a journal in memory: its block, its map's, its tape's; N: where its rows may lie -/
def JAt (N : Nat → Prop) (w : World) (j b p : Nat) (l : KV) (n : Nat) (hd : Bool) : Prop :=
  Blk w j #[.pointer (some ⟨p, 0, none⟩), .map (some b), .int .i64 (n : Int), .bool hd] 30 ∧ JMap N w b l ∧ j ≠ b ∧ ∀ g, N g → g ≠ j ∧ g ≠ b
section
variable {N X : Nat → Prop} {w w' : World} {j b p : Nat} {l : KV} {n : Nat} {hd : Bool}
theorem JAt.keep (h : JAt N w j b p l n hd) (hk : Keep X w w') (hj : ¬ X j) (hb : ¬ X b) (hn : ∀ g, N g → g < w.heap.size → ¬ X g) : JAt N w' j b p l n hd := ⟨hk.blk h.1 hj, h.2.1.keep hk hb hn, h.2.2.1, h.2.2.2⟩
theorem JAt.more (h : JAt N w j b p l n hd) (hb : Below w.heap.size w w') : JAt N w' j b p l n hd := h.keep (Keep.of_below (X := fun _ => False) hb) (fun h => h) (fun h => h) (fun _ _ _ h => h)
theorem JAt.mono {M : Nat → Prop} (h : JAt N w j b p l n hd) (hm : ∀ g, N g → g < w.heap.size → M g) (hM : ∀ g, M g → g ≠ j ∧ g ≠ b) : JAt M w j b p l n hd := ⟨h.1, h.2.1.mono hm, h.2.2.1, hM⟩
theorem JAt.lt (h : JAt N w j b p l n hd) : j < w.heap.size ∧ b < w.heap.size := ⟨h.1.lt, h.2.1.lt⟩
end
/-- how many keys -/
theorem doK_le {l : KV} (h : Srt l) (x : BatD) : (doK l x).length ≤ l.length + x.puts.length := by
  have h1 : ∀ (ps : List (Key × List Int)) (l : KV), Srt l → (ps.foldl (fun l p => putK l p.1 p.2) l).length ≤ l.length + ps.length := fun ps => by
    induction ps with
    | nil => exact fun l _ => Nat.le_refl _
    | cons p t ih => exact fun l h => by have := ih _ (h.put p.1 p.2); have := putK_le h p.1 p.2; rw [List.foldl_cons, List.length_cons]; omega
  have h2 : ∀ (ks : List Key) (l : KV), (ks.foldl delK l).length ≤ l.length := fun ks => by
    induction ks with
    | nil => exact fun l => Nat.le_refl _
    | cons k t ih => exact fun l => Nat.le_trans (ih _) (delK_le k)
  exact Nat.le_trans (h2 _ _) (h1 _ _ h)
theorem flat_ge {α : Type} {f : α → List Int} (hf : ∀ x, 1 ≤ (f x).length) : ∀ l : List α, l.length ≤ (l.flatMap f).length
  | [] => Nat.le_refl _
  | x :: t => by rw [List.flatMap_cons, List.length_append, List.length_cons]; have := hf x; have := flat_ge hf t; omega
theorem txtB_pos (z : List Int) : 1 ≤ (txtB z).length := by unfold txtB; rw [List.length_append]; have := (encS_ne z.length).1; omega
theorem puts_le (x : BatD) : x.puts.length ≤ (frmX x).length := by
  have h1 := flat_ge (f := putB) (fun p => by unfold putB; rw [List.length_append]; have := txtB_pos (kb p.1); omega) x.puts
  unfold frmX
  rw [frmB_len]
  unfold batB
  rw [List.length_append, List.length_append]
  omega
theorem doAll_le (xs : List BatD) : ∀ l : KV, Srt l → (doAll l xs).length ≤ l.length + (xs.flatMap frmX).length := by
  induction xs with
  | nil => exact fun l _ => Nat.le_add_right _ _
  | cons x t ih =>
    intro l h
    have h1 := ih _ (h.do x)
    have h2 := doK_le h x
    have h3 := puts_le x
    rw [List.flatMap_cons, List.length_append]
    show (doAll (doK l x) t).length ≤ _
    omega
theorem doAll_snoc (l : KV) (xs : List BatD) (x : BatD) : doAll l (xs ++ [x]) = doK (doAll l xs) x := by unfold doAll; rw [List.foldl_append]; rfl
end Go.Proofs.YtbjbjgfjaopibaaDoor
end
