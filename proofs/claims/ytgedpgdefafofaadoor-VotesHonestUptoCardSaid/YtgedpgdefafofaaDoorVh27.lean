import Derived.Test.YtgedpgdefafofaaDoorVh18
import Derived.Test.YtgedpgdefafofaaDoorVh4
import Derived.Test.YtgedpgdefafofaaDoorVh6
import Derived.Test.YtgedpgdefafofaaDoorVh23
import Derived.Test.YtgedpgdefafofaaDoorVh26
section
/- A header's bytes and hash, both sides. -/
namespace Go.Proofs.YtgedpgdefafofaaDoor
open Go Go.RowKit
set_option linter.unusedSimpArgs false
set_option linter.unusedVariables false
set_option maxRecDepth 100000

def hdrBytes (x : HdrD) : List Int := leB x.ver.toNat 4 ++ hbytes x.prev ++ hbytes x.merkle ++ leB x.time.toNat 4 ++ leB x.bits.toNat 4 ++ leB x.nonce.toNat 4
theorem hdrBytes_length (x : HdrD) : (hdrBytes x).length = 80 := by simp [hdrBytes, leB_length, hbytes_length]
theorem leB_range (n k : Nat) : ∀ y ∈ leB n k, 0 ≤ y ∧ y ≤ 255 := fun y hy => by
  obtain ⟨i, _, rfl⟩ := List.mem_map.1 hy
  omega
theorem hdrBytes_range (x : HdrD) : ∀ y ∈ hdrBytes x, 0 ≤ y ∧ y ≤ 255 := fun y hy => by
  unfold hdrBytes at hy
  simp only [List.mem_append] at hy
  rcases hy with ((((h | h) | h) | h) | h) | h
  · exact leB_range _ _ y h
  · exact hbytes_range _ y h
  · exact hbytes_range _ y h
  · exact leB_range _ _ y h
  · exact leB_range _ _ y h
  · exact leB_range _ _ y h
/-- a buffer of k bytes of which the first are written -/
def bufL (pre : List Int) (k : Nat) : List Int := pre ++ List.replicate (k - pre.length) 0
theorem bufL_length (pre : List Int) (k : Nat) (h : pre.length ≤ k) : (bufL pre k).length = k := by simp [bufL]; omega
theorem bufL_full (pre : List Int) (k : Nat) (h : pre.length = k) : bufL pre k = pre := by simp [bufL, h]
theorem bufL_split (pre more : List Int) (k : Nat) (h : pre.length + more.length ≤ k) : bufL pre k = pre ++ List.replicate more.length 0 ++ List.replicate (k - (pre ++ more).length) 0 := by
  unfold bufL
  rw [List.append_assoc, List.replicate_append_replicate]
  congr 2
  rw [List.length_append]; omega
theorem Blk.buf {w : World} {g : Nat} {t : TypeId} {pre : List Int} {k : Nat} (h : Blk w g (u8s (bufL pre k)).toArray t) (more : List Int) (hk : pre.length + more.length ≤ k) : Blk (w.setCells g pre.length (u8s more)) g (u8s (bufL (pre ++ more) k)).toArray t := by
  have h1 := h.setMid pre.length (u8s more) (by rw [u8s_length, List.size_toArray, u8s_length, bufL_length _ _ (by omega)]; exact hk)
  have e : ((u8s (bufL pre k)).toArray.toList.take pre.length ++ u8s more ++ (u8s (bufL pre k)).toArray.toList.drop (pre.length + (u8s more).length)) = u8s (bufL (pre ++ more) k) := by
    rw [List.toList_toArray, u8s_length, bufL_split pre more k hk]
    have e1 : u8s (pre ++ List.replicate more.length 0 ++ List.replicate (k - (pre ++ more).length) 0) = u8s pre ++ (u8s (List.replicate more.length 0) ++ u8s (List.replicate (k - (pre ++ more).length) 0)) := by rw [u8s_append, u8s_append, List.append_assoc]
    rw [e1]
    have l1 : (u8s pre).length = pre.length := u8s_length _
    rw [show (u8s pre ++ (u8s (List.replicate more.length 0) ++ u8s (List.replicate (k - (pre ++ more).length) 0))).take pre.length = u8s pre from by rw [← l1]; exact List.take_left]
    rw [← List.drop_drop, show (u8s pre ++ (u8s (List.replicate more.length 0) ++ u8s (List.replicate (k - (pre ++ more).length) 0))).drop pre.length = u8s (List.replicate more.length 0) ++ u8s (List.replicate (k - (pre ++ more).length) 0) from by rw [← l1]; exact List.drop_left]
    rw [show (u8s (List.replicate more.length 0) ++ u8s (List.replicate (k - (pre ++ more).length) 0)).drop more.length = u8s (List.replicate (k - (pre ++ more).length) 0) from by
      have h0 : (u8s (List.replicate more.length 0)).length = more.length := by rw [u8s_length]; simp
      have h1 := List.drop_left (l₁ := u8s (List.replicate more.length 0)) (l₂ := u8s (List.replicate (k - (pre ++ more).length) 0))
      rw [h0] at h1
      exact h1]
    unfold bufL
    rw [u8s_append, u8s_append]
  rw [e] at h1
  exact h1
theorem u8s_cell (xs : List Int) (i : Nat) (h : i < xs.length) : (u8s xs).toArray[i]? = some (.int .u8 (xs.getD i 0)) := by rw [List.getElem?_toArray]; exact u8s_get xs i h
theorem bufL_zero (pre : List Int) (k i : Nat) (h1 : pre.length ≤ i) (h2 : i < k) : (bufL pre k).getD i 0 = 0 := by
  unfold bufL
  rw [List.getD_eq_getElem?_getD, List.getElem?_append_right h1, List.getElem?_replicate, if_pos (by omega)]; rfl
set_option maxHeartbeats 1600000 in
theorem hput (bb p n : Nat) (pre : List Int) (w : World) (h : Blk w bb (u8s (bufL pre 80)).toArray 115) (hp : pre.length = p) (h80 : p + 4 ≤ 80) (hn : n < 4294967296) :
    Calls Tryd.prog 74 #[.int .i64 (p : Int), .int .u32 (n : Int), .pointer (some ⟨bb, 0, none⟩)] w fun e w' => e = .returned (.tuple #[]) ∧ Blk w' bb (u8s (bufL (pre ++ leB n 4) 80)).toArray 115 ∧ Keep (fun k => k = bb) w w' := by
  have H := Lib.hid (And.intro h hp)
  clear h hp
  go_enter Tryd.func74, Tryd.ntmps74
  go_wp2
  go_loopg [6] 4 (fun gh i wx => ∃ k : Nat, k ≤ 4 ∧ i = .int .i64 (k : Int) ∧ gh = 4 - k ∧ Hid (Blk wx bb (u8s (bufL (pre ++ leB n k) 80)).toArray 115 ∧ Keep (fun k => k = bb) w wx))
  case atStart => exact ⟨0, Nat.zero_le _, rfl, rfl, by rw [show leB n 0 = [] from rfl, List.append_nil]; exact H.out.1, Keep.refl _ _⟩
  case round =>
    obtain ⟨k, hk, rfl, hg, HK⟩ := hrel
    have HG := Lib.hid hg
    clear hg
    by_cases hlt : k < 4
    · have a2 : IntKind.i64.wrap (8 * (k : Int)) = 8 * (k : Int) := by rw [IntKind.wrap_i64]; omega
      have hlen : (pre ++ leB n k).length = p + k := by rw [List.length_append, leB_length, H.out.2]
      have c0 : wr.cell? ⟨bb, p + k, none⟩ = some (.int .u8 0) := by
        rw [HK.out.1.cell, u8s_cell _ _ (by rw [bufL_length _ _ (by omega)]; omega), bufL_zero _ _ _ (by omega) (by omega)]
      have f0 := HK.out.1.free (p + k)
      have b1 := HK.out.1.buf [((n / 2 ^ (8 * k) % 256 : Nat) : Int)] (by rw [hlen]; simp; omega)
      rw [List.append_assoc, leB_succ, hlen] at b1
      have b1' : Blk (wr.setCell ⟨bb, p + k, none⟩ (.int .u8 ((n : Int) / 2 ^ (8 * k) % 256))) bb (u8s (bufL (pre ++ leB n (k + 1)) 80)).toArray 115 := by
        rw [show ((n : Int) / 2 ^ (8 * k) % 256) = ((n / 2 ^ (8 * k) % 256 : Nat) : Int) from by simp]; exact b1
      have H1 := Lib.hid (And.intro b1' (HK.out.2.set (p := ⟨bb, p + k, none⟩) (.inl rfl) (.int .u8 ((n : Int) / 2 ^ (8 * k) % 256))))
      clear b1 b1' hlen
      go_wp2
      go_roundg (4 - (k + 1))
      case measure => rw [HG.out]; omega
      case rel => exact ⟨k + 1, hlt, rfl, rfl, H1.out.1, H1.out.2⟩
    · obtain rfl : k = 4 := by omega
      go_wp2
      go_end0
      exact ⟨rfl, HK.out.1, HK.out.2⟩
theorem hdr_cells (x : HdrD) : (hdrCs x).toArray[0]? = some (.int .u32 x.ver) ∧ (∀ i, i < 32 → (hdrCs x).toArray[1 + i]? = some (.int .u8 (byt x.prev i))) ∧ (∀ i, i < 32 → (hdrCs x).toArray[33 + i]? = some (.int .u8 (byt x.merkle i))) ∧
    (hdrCs x).toArray[65]? = some (.int .u32 x.time) ∧ (hdrCs x).toArray[66]? = some (.int .u32 x.bits) ∧ (hdrCs x).toArray[67]? = some (.int .u32 x.nonce) := by
  have g : ∀ i, (hdrCs x).toArray[i]? = (hdrCs x)[i]? := fun i => List.getElem?_toArray ..
  have l1 : ([Value.int .u32 x.ver] ++ hls x.prev).length = 33 := by simp [hls_length]
  have l2 : ([Value.int .u32 x.ver] ++ hls x.prev ++ hls x.merkle).length = 65 := by simp [hls_length]
  refine ⟨rfl, fun i hi => ?_, fun i hi => ?_, ?_, ?_, ?_⟩ <;> rw [g] <;> unfold hdrCs
  · rw [List.getElem?_append_left (by rw [l2]; omega), List.getElem?_append_left (by rw [l1]; omega), List.getElem?_append_right (by simp)]
    simp [hls, hi]
  · rw [List.getElem?_append_left (by rw [l2]; omega), List.getElem?_append_right (by rw [l1]; omega), l1]
    simp [hls, show 33 + i - 33 = i from by omega, hi]
  · rw [List.getElem?_append_right (by rw [l2]; omega), l2]; rfl
  · rw [List.getElem?_append_right (by rw [l2]; omega), l2]; rfl
  · rw [List.getElem?_append_right (by rw [l2]; omega), l2]; rfl
theorem hdr_size (x : HdrD) : (hdrCs x).toArray.size = 68 := by simp [hdrCs, hls_length]
theorem zero80 : Tryd.zeroCells115 = (u8s (bufL [] 80)).toArray := by kernel_rfl
/-- 32 bytes of a hash among cells -/
theorem hash_sub {w : World} {g a n : Nat} (h : ∀ i, i < 32 → w.cell? ⟨g, a + i, none⟩ = some (.int .u8 (byt n i))) : Lib.BytesIn w (some ⟨g, a, none⟩) (hbytes n).length (hbytes n) := Lib.BytesIn.of_cells fun i hi => by
  rw [hbytes_length] at hi
  rw [Addr.add_lit, h i hi]
  simp [hbytes, hi]
set_option maxHeartbeats 3200000 in
theorem phenc (x : HdrD) (hx : HdrOk x) (w : World) :
    Calls Tryd.prog 48 #[.agg (hdrCs x).toArray] w fun e w' => ∃ g, e = .returned (.slice (some ⟨g, 0, none⟩) 80 80) ∧ Lib.BytesIn w' (some ⟨g, 0, none⟩) 80 (hdrBytes x) ∧ w.heap.size ≤ g ∧ Below w.heap.size w w' := by
  have L := two_blocks w (hdrCs x).toArray (u8s (bufL [] 80)).toArray 26 115
  have hs2 : ((w.alloc (.cells (hdrCs x).toArray 26)).alloc (.cells (u8s (bufL [] 80)).toArray 115)).heap.size = w.heap.size + 2 := by simp
  have HL := Lib.hid (And.intro L hs2)
  obtain ⟨e0, e1, e2, e3, e4, e5⟩ := hdr_cells x
  have hsz := hdr_size x
  have HE := Lib.hid (And.intro e1 e2)
  rw [← zero80] at HL
  clear L hs2 e1 e2
  generalize hcs0 : (hdrCs x).toArray = cs0 at *
  clear hcs0
  obtain ⟨BB, hBB⟩ : ∃ BB, BB = hdrBytes x := ⟨_, rfl⟩
  rw [← hBB]
  have HBB := Lib.hid (show BB = [] ++ leB x.ver.toNat 4 ++ hbytes x.prev ++ hbytes x.merkle ++ leB x.time.toNat 4 ++ leB x.bits.toNat 4 ++ leB x.nonce.toNat 4 from hBB)
  clear hBB
  go_enter Tryd.func48, Tryd.ntmps48
  go_upto_region 3 with fail
  generalize (w.alloc (.cells cs0 26)).alloc (.cells Tryd.zeroCells115 115) = W at *
  generalize hgw : w.heap.size = hb at *
  rw [zero80] at HL
  have hv : x.ver = (x.ver.toNat : Int) := by have := (bounds_u32 hx.1).1; omega
  have ht : x.time = (x.time.toNat : Int) := by have := (bounds_u32 hx.2.2.2.1).1; omega
  have hbt : x.bits = (x.bits.toNat : Int) := by have := (bounds_u32 hx.2.2.2.2.1).1; omega
  have hno : x.nonce = (x.nonce.toNat : Int) := by have := (bounds_u32 hx.2.2.2.2.2).1; omega
  have bv : x.ver.toNat < 4294967296 := by have := (bounds_u32 hx.1).2; omega
  have bt : x.time.toNat < 4294967296 := by have := (bounds_u32 hx.2.2.2.1).2; omega
  have bb : x.bits.toNat < 4294967296 := by have := (bounds_u32 hx.2.2.2.2.1).2; omega
  have bo : x.nonce.toNat < 4294967296 := by have := (bounds_u32 hx.2.2.2.2.2).2; omega
  rw [hv] at e0
  rw [ht] at e3
  rw [hbt] at e4
  rw [hno] at e5
  generalize x.ver.toNat = v at *
  generalize x.time.toNat = t at *
  generalize x.bits.toNat = b at *
  generalize x.nonce.toNat = o at *
  clear hv ht hbt hno hx
  have CC : ∀ (W' : World), Keep (fun k => k = hb + 1) W W' → ∀ i, W'.cell? ⟨hb, i, none⟩ = cs0[i]? := fun W' hk i => (hk.blk HL.out.1.1 (by omega)).cell i
  have HCC := Lib.hid (And.intro CC (And.intro e3 (And.intro e4 e5)))
  have c0 := (CC W (Keep.refl _ _) 0).trans e0
  have P1 := Lib.hid (hput (hb + 1) 0 v [] W HL.out.1.2.1 rfl (by decide) bv)
  clear e3 e4 e5 CC
  go_wp2_with fail
  refine P1.out.mono ?_
  rintro e W1 ⟨rfl, b1, k1⟩
  clear c0
  have cp := fun i hi => (HCC.out.1 W1 k1 (1 + i)).trans (HE.out.1 i hi)
  have RC1 := run_copy_cells (P := Tryd.prog) W1.drew 30 30 3 5 (hb + 1) 4 76 76 ⟨hb, 1, none⟩ 32 32 (u8s (hbytes x.prev)) Tryd.underlying30 (by kernel_rfl) (by rw [u8s_length, hbytes_length]; rfl)
    (fun j u hu => by
      have hj : j < 32 := by have := (List.getElem?_eq_some_iff.1 hu).1; rwa [u8s_length, hbytes_length] at this
      rw [Addr.add_lit]
      have h1 := cp j hj
      rw [u8s_get _ _ (by rw [hbytes_length]; exact hj)] at hu
      have h2 : (hbytes x.prev).getD j 0 = byt x.prev j := by simp [hbytes, List.getD_eq_getElem?_getD, hj]
      rw [h2] at hu
      exact h1.trans hu)
    (fun j hj => by rw [u8s_length, hbytes_length] at hj; have h1 := b1.cell (4 + j); rw [u8s_cell _ _ (by rw [bufL_length _ _ (by simp [leB_length])]; omega)] at h1; rw [World.cell?_drew, h1]; rfl)
    (fun j _ => b1.free _) (u8s_one _)
  rw [u8s_length, hbytes_length] at RC1
  have b2 := b1.drew.buf (hbytes x.prev) (by simp [leB_length, hbytes_length])
  have hl4 : (([] : List Int) ++ leB v 4).length = 4 := by simp [leB_length]
  rw [hl4] at b2
  have k2 := k1.drew.trans (Keep.setCells (X := fun k => k = hb + 1) (g := hb + 1) (.inl rfl) (u8s (hbytes x.prev)) 4 (Keep.refl _ W1.drew))
  have H2 := Lib.hid (And.intro b2 k2)
  clear cp b1 k1 b2 k2
  go_upto_region 4 with fail
  refine wp_region_held_drew (S := fun w' => True) (by kernel_rfl) trivial (fun hS => ?_)
  refine wpAnyH_take (i := 0) (oi := ⟨_, _, _, _, _, _⟩) (v := ?_) rfl (by kernel_rfl) (by kernel_rfl) (by kernel_rfl) (fun _ _ _ h => h) (Or.inl ⟨by rfl, ?_⟩) hS ?_
  rotate_left
  · intro w0 hs; clear hs; go_simp; try (with_reducible rfl)
  try simp only [Act.put, List.setIfInBounds_toArray, List.set_cons_zero, List.set_cons_succ]
  refine wpAnyH_take (i := 1) (oi := ⟨_, _, _, _, _, _⟩) (v := ?_) rfl (by kernel_rfl) (by kernel_rfl) (by kernel_rfl) (fun _ _ _ h => h) (Or.inl ⟨by rfl, ?_⟩) hS ?_
  rotate_left
  · intro w0 hs; clear hs; go_simp; try (with_reducible rfl)
  try simp only [Act.put, List.setIfInBounds_toArray, List.set_cons_zero, List.set_cons_succ]
  refine wpAnyH_take (i := 2) (oi := ⟨_, _, _, _, _, _⟩) (v := ?_) rfl (by kernel_rfl) (by kernel_rfl) (by kernel_rfl) (fun _ _ _ h => h) (Or.inl ⟨by rfl, ?_⟩) hS ?_
  rotate_left
  · intro w0 hs; clear hs; go_simp; try (with_reducible rfl)
  try simp only [Act.put, List.setIfInBounds_toArray, List.set_cons_zero, List.set_cons_succ]
  refine wpAnyH_ready (rs := [3]) (by kernel_rfl) (by simp) ?_
  refine AllReadyH.cons (o := ⟨_, _, _, _, _, _⟩) rfl (fun K hK => ?_) AllReadyH.nil
  rw [if_pos (by rfl)]
  go_simp
  refine hK.out _ _ trivial (fun hS' => ?_)
  clear hS hK
  have hS := hS'; clear hS'
  try simp only [Act.put, List.setIfInBounds_toArray, List.set_cons_zero, List.set_cons_succ]
  refine wpAnyH_done (by kernel_rfl) ?_ _
  clear hS RC1
  have hl36 : (([] : List Int) ++ leB v 4 ++ hbytes x.prev).length = 36 := by simp [leB_length, hbytes_length]
  generalize (W1.drew.setCells (hb + 1) 4 (u8s (hbytes x.prev))) = W2 at *
  have cp := fun i hi => (HCC.out.1 W2 H2.out.2 (33 + i)).trans (HE.out.2 i hi)
  have RC2 := run_copy_cells (P := Tryd.prog) W2.drew 30 30 3 5 (hb + 1) 36 44 44 ⟨hb, 33, none⟩ 32 32 (u8s (hbytes x.merkle)) Tryd.underlying30 (by kernel_rfl) (by rw [u8s_length, hbytes_length]; rfl)
    (fun j u hu => by
      have hj : j < 32 := by have := (List.getElem?_eq_some_iff.1 hu).1; rwa [u8s_length, hbytes_length] at this
      rw [Addr.add_lit]
      have h1 := cp j hj
      rw [u8s_get _ _ (by rw [hbytes_length]; exact hj)] at hu
      have h2 : (hbytes x.merkle).getD j 0 = byt x.merkle j := by simp [hbytes, List.getD_eq_getElem?_getD, hj]
      rw [h2] at hu
      exact h1.trans hu)
    (fun j hj => by rw [u8s_length, hbytes_length] at hj; have h1 := H2.out.1.cell (36 + j); rw [u8s_cell _ _ (by rw [bufL_length _ _ (by rw [hl36]; decide)]; omega)] at h1; rw [World.cell?_drew, h1]; rfl)
    (fun j _ => H2.out.1.free _) (u8s_one _)
  rw [u8s_length, hbytes_length] at RC2
  have b3 := H2.out.1.drew.buf (hbytes x.merkle) (by rw [hl36, hbytes_length]; decide)
  rw [hl36] at b3
  have k3 := H2.out.2.drew.trans (Keep.setCells (X := fun k => k = hb + 1) (g := hb + 1) (.inl rfl) (u8s (hbytes x.merkle)) 36 (Keep.refl _ W2.drew))
  have H3 := Lib.hid (And.intro b3 k3)
  clear cp b3 k3
  go_upto_region 5 with fail
  refine wp_region_held_drew (S := fun w' => True) (by kernel_rfl) trivial (fun hS => ?_)
  refine wpAnyH_take (i := 0) (oi := ⟨_, _, _, _, _, _⟩) (v := ?_) rfl (by kernel_rfl) (by kernel_rfl) (by kernel_rfl) (fun _ _ _ h => h) (Or.inl ⟨by rfl, ?_⟩) hS ?_
  rotate_left
  · intro w0 hs; clear hs; go_simp; try (with_reducible rfl)
  try simp only [Act.put, List.setIfInBounds_toArray, List.set_cons_zero, List.set_cons_succ]
  refine wpAnyH_take (i := 1) (oi := ⟨_, _, _, _, _, _⟩) (v := ?_) rfl (by kernel_rfl) (by kernel_rfl) (by kernel_rfl) (fun _ _ _ h => h) (Or.inl ⟨by rfl, ?_⟩) hS ?_
  rotate_left
  · intro w0 hs; clear hs; go_simp; try (with_reducible rfl)
  try simp only [Act.put, List.setIfInBounds_toArray, List.set_cons_zero, List.set_cons_succ]
  refine wpAnyH_take (i := 2) (oi := ⟨_, _, _, _, _, _⟩) (v := ?_) rfl (by kernel_rfl) (by kernel_rfl) (by kernel_rfl) (fun _ _ _ h => h) (Or.inl ⟨by rfl, ?_⟩) hS ?_
  rotate_left
  · intro w0 hs; clear hs; go_simp; try (with_reducible rfl)
  try simp only [Act.put, List.setIfInBounds_toArray, List.set_cons_zero, List.set_cons_succ]
  refine wpAnyH_ready (rs := [3]) (by kernel_rfl) (by simp) ?_
  refine AllReadyH.cons (o := ⟨_, _, _, _, _, _⟩) rfl (fun K hK => ?_) AllReadyH.nil
  rw [if_pos (by rfl)]
  go_simp
  refine hK.out _ _ trivial (fun hS' => ?_)
  clear hS hK
  have hS := hS'; clear hS'
  try simp only [Act.put, List.setIfInBounds_toArray, List.set_cons_zero, List.set_cons_succ]
  refine wpAnyH_done (by kernel_rfl) ?_ _
  clear hS RC2
  generalize (W2.drew.setCells (hb + 1) 36 (u8s (hbytes x.merkle))) = W3 at *
  have hl68 : (([] : List Int) ++ leB v 4 ++ hbytes x.prev ++ hbytes x.merkle).length = 68 := by simp [leB_length, hbytes_length]
  have c3 := (HCC.out.1 W3 H3.out.2 65).trans HCC.out.2.1
  have P3 := Lib.hid (hput (hb + 1) 68 t _ W3 H3.out.1 hl68 (by decide) bt)
  go_wp2_with fail
  refine P3.out.mono ?_
  rintro e W4 ⟨rfl, b4, k4⟩
  have hl72 : (([] : List Int) ++ leB v 4 ++ hbytes x.prev ++ hbytes x.merkle ++ leB t 4).length = 72 := by simp [leB_length, hbytes_length]
  have c4 := (HCC.out.1 W4 (H3.out.2.trans k4) 66).trans HCC.out.2.2.1
  have P4 := Lib.hid (hput (hb + 1) 72 b _ W4 b4 hl72 (by decide) bb)
  have HK4 := Lib.hid (H3.out.2.trans k4)
  clear c3 b4 k4
  go_wp2_with fail
  refine P4.out.mono ?_
  rintro e W5 ⟨rfl, b5, k5⟩
  have hl76 : (([] : List Int) ++ leB v 4 ++ hbytes x.prev ++ hbytes x.merkle ++ leB t 4 ++ leB b 4).length = 76 := by simp [leB_length, hbytes_length]
  have c5 := (HCC.out.1 W5 (HK4.out.trans k5) 67).trans HCC.out.2.2.2
  have P5 := Lib.hid (hput (hb + 1) 76 o _ W5 b5 hl76 (by decide) bo)
  have HK5 := Lib.hid (HK4.out.trans k5)
  clear c4 b5 k5
  go_wp2_with fail
  refine P5.out.mono ?_
  rintro e W6 ⟨rfl, b6, k6⟩
  have hl80 : (([] : List Int) ++ leB v 4 ++ hbytes x.prev ++ hbytes x.merkle ++ leB t 4 ++ leB b 4 ++ leB o 4).length = 80 := by simp [leB_length, hbytes_length]
  rw [bufL_full _ _ hl80, ← HBB.out] at b6
  rw [← HBB.out] at hl80
  have hK := HK5.out.trans k6
  have hby : Lib.BytesIn W6 (some ⟨hb + 1, 0, none⟩) 80 BB := fun _ => ⟨hb + 1, 0, rfl, fun i hi => by
    rw [Nat.zero_add, b6.cell, u8s_cell _ _ (by omega)]⟩
  have HF := Lib.hid (And.intro hby (HL.out.1.2.2.trans (hK.below (B := hb) (by rw [HL.out.2]; omega) (fun k h => by rw [h]; omega))))
  clear c5 b6 k6 hK hby
  go_wp2
  go_ret
  exact ⟨hb + 1, rfl, HF.out.1, by rw [hgw]; omega, by rw [hgw]; exact HF.out.2⟩
def accE (base : List Int) (els : List Nat) : Nat → List Int
  | 0 => base
  | k + 1 => accE base els k ++ leB (els.getD k 0) 4
theorem accE_length (base : List Int) (els : List Nat) : ∀ k, (accE base els k).length = base.length + 4 * k
  | 0 => rfl
  | k + 1 => by
    show (accE base els k ++ leB (els.getD k 0) 4).length = _
    rw [List.length_append, accE_length base els k, leB_length]; omega
theorem wp_append_run' {P : Program} {w w' : World} {o : Oper} {a : Act} {K : Act → World → Prop} {Q : Exit → Act → World → Prop} (s x : Operand) (t : TypeId)
    (ho : o.op = .call { callee := .builtin .append, args := #[s, x], argTypes := #[t, t] }) {v1 v2 v' : Value} (hs : a.eval s = v1) (hx : a.eval x = v2)
    (hrun : (Builtin.append_ #[t, t] o.type #[v1, v2]).run P w = .ok v' w') (h : K (a.put o.dst v') w') : o.wp P a w K Q := by
  unfold Oper.wp
  simp [execOp, ho, resolve, invoke, builtin, hs, hx, hrun, Result.andThen]
  exact h
set_option maxHeartbeats 6400000 in
theorem rhenc (x : HdrD) (hx : HdrOk x) (w : World) :
    Calls Tryd.prog 32 #[.agg (hdrCs x).toArray] w fun e w' => ∃ q c, e = .returned (.slice q 80 c) ∧ Lib.BytesIn w' q 80 (hdrBytes x) ∧ 80 ≤ c ∧ Below w.heap.size w w' := by
  have bn := Blk.new w (hdrCs x).toArray 26
  have K0 := (Below.refl w.heap.size w).alloc (Nat.le_refl _) (.cells (hdrCs x).toArray 26)
  have HL := Lib.hid (And.intro bn K0)
  obtain ⟨i0, hi, hz0, hz1, hz2⟩ := info_parts u8inf
  have HI := Lib.hid (And.intro hi (And.intro hz0 (And.intro hz1 hz2)))
  clear hi hz0 hz1 hz2
  obtain ⟨e0, e1, e2, e3, e4, e5⟩ := hdr_cells x
  have hsz := hdr_size x
  have HE := Lib.hid (And.intro e1 e2)
  clear bn K0 e1 e2
  generalize hcs0 : (hdrCs x).toArray = cs0 at *
  clear hcs0
  obtain ⟨BB, hBB⟩ : ∃ BB, BB = hdrBytes x := ⟨_, rfl⟩
  rw [← hBB]
  have HBB := Lib.hid (show BB = leB x.ver.toNat 4 ++ hbytes x.prev ++ hbytes x.merkle ++ leB x.time.toNat 4 ++ leB x.bits.toNat 4 ++ leB x.nonce.toNat 4 from hBB)
  clear hBB
  have hv : x.ver = (x.ver.toNat : Int) := by have := (bounds_u32 hx.1).1; omega
  have ht : x.time = (x.time.toNat : Int) := by have := (bounds_u32 hx.2.2.2.1).1; omega
  have hbt : x.bits = (x.bits.toNat : Int) := by have := (bounds_u32 hx.2.2.2.2.1).1; omega
  have hno : x.nonce = (x.nonce.toNat : Int) := by have := (bounds_u32 hx.2.2.2.2.2).1; omega
  have bv : x.ver.toNat < 4294967296 := by have := (bounds_u32 hx.1).2; omega
  have bt : x.time.toNat < 4294967296 := by have := (bounds_u32 hx.2.2.2.1).2; omega
  have bb : x.bits.toNat < 4294967296 := by have := (bounds_u32 hx.2.2.2.2.1).2; omega
  have bo : x.nonce.toNat < 4294967296 := by have := (bounds_u32 hx.2.2.2.2.2).2; omega
  rw [hv] at e0
  rw [ht] at e3
  rw [hbt] at e4
  rw [hno] at e5
  generalize x.ver.toNat = v at *
  generalize x.time.toNat = t at *
  generalize x.bits.toNat = b at *
  generalize x.nonce.toNat = o at *
  clear hv ht hbt hno hx
  go_enter Tryd.func32, Tryd.ntmps32
  go_upto_region 1 with fail
  generalize w.alloc (.cells cs0 26) = W at *
  generalize hgw : w.heap.size = hb at *
  have c0 := (HL.out.1.cell 0).trans e0
  have hvw : IntKind.u64.wrap (v : Int) = (v : Int) := IntWalk.u64_in _ (by omega)
  have PL := Lib.hid (rlow v 4 (by omega) (by decide) W)
  go_wp2_with fail
  refine PL.out.mono ?_
  rintro e W1 ⟨p1, c1, o1, rfl, R1, ho1, hb1⟩
  clear c0
  have hWs : hb < W.heap.size := HL.out.1.lt
  have B1 := HL.out.1.beyond hb1
  have cp := fun i hi => (B1.cell (1 + i)).trans (HE.out.1 i hi)
  have l1 : (leB v 4).length = 4 := leB_length _ _
  obtain ⟨v2, W2, o2, run2, R2, ho2, k2⟩ := row_appendL (P := Tryd.prog) 30 30 i0 (.int .u8 0) Tryd.underlying30 HI.out.1 HI.out.2.1 HI.out.2.2.1 HI.out.2.2.2 rfl (w := W1.drew) (xs := leB v 4) (v := .slice p1 4 c1) (R1.keep (X := fun _ => False) (Keep.refl _ W1).drew (fun _ _ h => h)) (c := 32) (hash_sub (a := 1) (fun i hi => by rw [World.cell?_drew]; exact cp i hi)) (by rw [l1, hbytes_length]; decide)
  rw [hbytes_length] at run2
  have own1 := own_step (w0 := W) rfl (hb1.drew) ho1 ho2 k2
  have B2 := k2.blk B1.drew (fun e => by have := ho1 _ e; omega)
  obtain ⟨q2, c2, rfl, _⟩ := R2.form
  have l2 : (leB v 4 ++ hbytes x.prev).length = 36 := by simp [leB_length, hbytes_length]
  have cp2 := fun i hi => (B2.cell (33 + i)).trans (HE.out.2 i hi)
  obtain ⟨v3, W3, o3, run3, R3, ho3, k3⟩ := row_appendL (P := Tryd.prog) 30 30 i0 (.int .u8 0) Tryd.underlying30 HI.out.1 HI.out.2.1 HI.out.2.2.1 HI.out.2.2.2 rfl R2 (c := 32) (hash_sub (a := 33) cp2) (by rw [l2, hbytes_length]; decide)
  rw [hbytes_length, l2] at run3
  rw [l2] at run2
  have own2 := own_step (w0 := W) rfl own1.2 own1.1 ho3 k3
  have B3 := k3.blk B2 (fun e => by have := own1.1 _ e; omega)
  obtain ⟨q3, c3, rfl, _⟩ := R3.form
  have l3 : (leB v 4 ++ hbytes x.prev ++ hbytes x.merkle).length = 68 := by simp [leB_length, hbytes_length]
  rw [l3] at run3 R3
  have H3 := Lib.hid (And.intro R3 (And.intro own2 B3))
  clear R1 ho1 hb1 B1 cp R2 ho2 k2 own1 B2 cp2 R3 ho3 k3 own2 B3
  go_upto_region 2 with fail
  refine wp_region_held_drew (S := fun w' => True) (by kernel_rfl) trivial (fun hS => ?_)
  refine wpAnyH_take (i := 0) (oi := ⟨_, _, _, _, _, _⟩) (v := ?_) rfl (by kernel_rfl) (by kernel_rfl) (by kernel_rfl) (fun _ _ _ h => h) (Or.inl ⟨by rfl, ?_⟩) hS ?_
  rotate_left
  · intro w0 hs; clear hs; go_simp; try (with_reducible rfl)
  try simp only [Act.put, List.setIfInBounds_toArray, List.set_cons_zero, List.set_cons_succ]
  refine wpAnyH_take (i := 1) (oi := ⟨_, _, _, _, _, _⟩) (v := ?_) rfl (by kernel_rfl) (by kernel_rfl) (by kernel_rfl) (fun _ _ _ h => h) (Or.inl ⟨by rfl, ?_⟩) hS ?_
  rotate_left
  · intro w0 hs; clear hs; go_simp; try (with_reducible rfl)
  try simp only [Act.put, List.setIfInBounds_toArray, List.set_cons_zero, List.set_cons_succ]
  refine wpAnyH_take (i := 2) (oi := ⟨_, _, _, _, _, _⟩) (v := ?_) rfl (by kernel_rfl) (by kernel_rfl) (by kernel_rfl) (fun _ _ _ h => h) (Or.inl ⟨by rfl, ?_⟩) hS ?_
  rotate_left
  · intro w0 hs; clear hs; go_simp; try (with_reducible rfl)
  try simp only [Act.put, List.setIfInBounds_toArray, List.set_cons_zero, List.set_cons_succ]
  refine wpAnyH_take (i := 4) (oi := ⟨_, _, _, _, _, _⟩) (v := ?_) rfl (by kernel_rfl) (by kernel_rfl) (by kernel_rfl) (fun _ _ _ h => h) (Or.inl ⟨by rfl, ?_⟩) hS ?_
  rotate_left
  · intro w0 hs; clear hs; go_simp; try (with_reducible rfl)
  try simp only [Act.put, List.setIfInBounds_toArray, List.set_cons_zero, List.set_cons_succ]
  refine wpAnyH_take (i := 5) (oi := ⟨_, _, _, _, _, _⟩) (v := ?_) rfl (by kernel_rfl) (by kernel_rfl) (by kernel_rfl) (fun _ _ _ h => h) (Or.inl ⟨by rfl, ?_⟩) hS ?_
  rotate_left
  · intro w0 hs; clear hs; go_simp; try (with_reducible rfl)
  try simp only [Act.put, List.setIfInBounds_toArray, List.set_cons_zero, List.set_cons_succ]
  refine wpAnyH_ready (rs := [3]) (by kernel_rfl) (by simp) ?_
  refine AllReadyH.cons (o := ⟨_, _, _, _, _, _⟩) rfl (fun K hK => ?_) AllReadyH.nil
  rw [if_pos (by rfl)]
  refine wp_append_run' _ _ 30 rfl rfl rfl run2 ?_
  refine hK.out _ _ trivial (fun hS' => ?_)
  clear hS hK
  have hS := hS'; clear hS'
  try simp only [Act.put, List.setIfInBounds_toArray, List.set_cons_zero, List.set_cons_succ]
  refine wpAnyH_ready (rs := [6]) (by kernel_rfl) (by simp) ?_
  refine AllReadyH.cons (o := ⟨_, _, _, _, _, _⟩) rfl (fun K hK => ?_) AllReadyH.nil
  rw [if_pos (by rfl)]
  refine wp_append_run' _ _ 30 rfl rfl rfl run3 ?_
  refine hK.out _ _ trivial (fun hS' => ?_)
  clear hS hK
  have hS := hS'; clear hS'
  try simp only [Act.put, List.setIfInBounds_toArray, List.set_cons_zero, List.set_cons_succ]
  refine wpAnyH_take (i := 7) (oi := ⟨_, _, _, _, _, _⟩) (v := ?_) rfl (by kernel_rfl) (by kernel_rfl) (by kernel_rfl) (fun _ _ _ h => h) (Or.inl ⟨by rfl, ?_⟩) hS ?_
  rotate_left
  · intro w0 hs; clear hs; go_simp; try (with_reducible rfl)
  try simp only [Act.put, List.setIfInBounds_toArray, List.set_cons_zero, List.set_cons_succ]
  refine wpAnyH_done (by kernel_rfl) ?_ _
  clear hS run2 run3
  have f3 := (H3.out.2.2.cell 65).trans e3
  have f4 := (H3.out.2.2.cell 66).trans e4
  have f5 := (H3.out.2.2.cell 67).trans e5
  have bA := Blk.new W3 #[.int .u32 (t : Int), .int .u32 (b : Int), .int .u32 (o : Int)] 22
  have kA := (Below.refl W3.heap.size W3).alloc (Nat.le_refl _) (.cells #[.int .u32 (t : Int), .int .u32 (b : Int), .int .u32 (o : Int)] 22)
  have RA := H3.out.1.keep (X := fun _ => False) (Keep.of_below kA) (fun _ _ h => h)
  have KA := H3.out.2.1.2.trans (kA.mono H3.out.2.1.2.size)
  have hAB : W.heap.size ≤ W3.heap.size := H3.out.2.1.2.size
  have ho3 : ∀ g, o3 = some g → g < W3.heap.size := H3.out.1.lt
  have HA := Lib.hid (And.intro bA (And.intro RA (And.intro KA (And.intro H3.out.2.1.1 ho3))))
  clear bA kA RA KA ho3 e3 e4 e5
  go_upto_region 4 with fail
  generalize W3.alloc (.cells #[.int .u32 (t : Int), .int .u32 (b : Int), .int .u32 (o : Int)] 22) = W4 at *
  generalize W3.heap.size = ab at *
  clear f3 f4 f5 H3
  go_loopg [3, 25] 3 (fun gh v2 i wx => ∃ (k : Nat) (p : Option Addr) (c : Nat) (o' : Option Nat), k ≤ 3 ∧ v2 = .slice p (68 + 4 * k) c ∧ i = .int .i64 (k : Int) ∧ gh = 3 - k ∧ Hid (Row wx 5 (.slice p (68 + 4 * k) c) (accE (leB v 4 ++ hbytes x.prev ++ hbytes x.merkle) [t, b, o] k) o' ∧ (∀ g, o' = some g → W.heap.size ≤ g ∧ g ≠ ab) ∧ Below W.heap.size W wx ∧ Blk wx ab #[.int .u32 (t : Int), .int .u32 (b : Int), .int .u32 (o : Int)] 22))
  case atStart => exact ⟨0, q3, c3, o3, by decide, rfl, rfl, rfl, HA.out.2.1, fun g hg => ⟨HA.out.2.2.2.1 g hg, fun e => by have := HA.out.2.2.2.2 g hg; omega⟩, HA.out.2.2.1, HA.out.1⟩
  case round =>
    obtain ⟨k, p, c, o', hk, rfl, rfl, hg, HK⟩ := hrel
    have HG := Lib.hid hg
    clear hg
    by_cases hlt : k < 3
    · obtain ⟨n, hn⟩ : ∃ n, n = ([t, b, o] : List Nat).getD k 0 := ⟨_, rfl⟩
      have hnb : n < 4294967296 := by
        rcases (by omega : k = 0 ∨ k = 1 ∨ k = 2) with rfl | rfl | rfl <;> (subst hn; first | exact bt | exact bb | exact bo)
      have ca : wr.cell? ⟨ab, k, none⟩ = some (.int .u32 (n : Int)) := by
        rw [HK.out.2.2.2.cell]
        rcases (by omega : k = 0 ∨ k = 1 ∨ k = 2) with rfl | rfl | rfl <;> (subst hn; rfl)
      have hnw : IntKind.u64.wrap (n : Int) = (n : Int) := IntWalk.u64_in _ (by omega)
      have PK := Lib.hid (rlow n 4 (by omega) (by decide) wr)
      have hlen := accE_length (leB v 4 ++ hbytes x.prev ++ hbytes x.merkle) [t, b, o] k
      rw [l3] at hlen
      have hnx : accE (leB v 4 ++ hbytes x.prev ++ hbytes x.merkle) [t, b, o] (k + 1) = accE (leB v 4 ++ hbytes x.prev ++ hbytes x.merkle) [t, b, o] k ++ leB n 4 := by rw [hn]; rfl
      have HN := Lib.hid (And.intro hlen hnx)
      clear hlen hnx hn
      generalize accE (leB v 4 ++ hbytes x.prev ++ hbytes x.merkle) [t, b, o] k = AC at *
      go_wp2_with fail
      refine PK.out.mono ?_
      rintro e w5 ⟨p5, c5, o5, rfl, R5, ho5, hb5⟩
      obtain ⟨_, _, e5, hby5, _⟩ := R5.form
      rw [leB_length] at hby5 e5
      cases e5
      have RK := HK.out.1.keep (X := fun _ => False) (Keep.of_below hb5) (fun _ _ h => h)
      obtain ⟨v6, w6, o6, run6, R6, ho6, k6⟩ := row_appendL (P := Tryd.prog) 30 30 i0 (.int .u8 0) Tryd.underlying30 HI.out.1 HI.out.2.1 HI.out.2.2.1 HI.out.2.2.2 rfl RK (c := c5) (by rw [leB_length]; exact hby5) (by rw [HN.out.1, leB_length]; omega)
      rw [leB_length] at run6
      obtain ⟨p6, c6, rfl, _⟩ := R6.form
      have e7 : (AC ++ leB n 4).length = 68 + 4 * (k + 1) := by rw [List.length_append, HN.out.1, leB_length]; omega
      rw [e7] at run6 R6
      have hB5 := HK.out.2.2.1.trans (hb5.mono HK.out.2.2.1.size)
      have own6 := own_step (w0 := W) rfl hB5 (fun g hg => (HK.out.2.1 g hg).1) ho6 k6
      have hab : ab < wr.heap.size := HK.out.2.2.2.lt
      have hne : ∀ g, o6 = some g → g ≠ ab := fun g hg => by
        rcases ho6 with h | ⟨g', h, hg'⟩
        · rw [h] at hg; exact (HK.out.2.1 g hg).2
        · rw [h] at hg; cases hg; have := hb5.size; omega
      have B6 := k6.blk (HK.out.2.2.2.beyond hb5) (fun e => (HK.out.2.1 _ e).2 rfl)
      have H6 := Lib.hid (And.intro R6 (And.intro (fun g hg => And.intro (own6.1 g hg) (hne g hg)) (And.intro own6.2 B6)))
      clear R5 ho5 hb5 hby5 RK R6 ho6 k6 hB5 own6 hne B6 e7
      go_wp2_with (at_builtin; refine wpl_append rfl _ _ 30 rfl rfl rfl run6 ?_)
      go_roundg (3 - (k + 1))
      case measure => rw [HG.out]; omega
      case rel => exact ⟨k + 1, p6, c6, o6, hlt, rfl, rfl, rfl, by rw [HN.out.2]; exact H6.out.1, H6.out.2.1, H6.out.2.2.1, H6.out.2.2.2⟩
    · obtain rfl : k = 3 := by omega
      have hfin : accE (leB v 4 ++ hbytes x.prev ++ hbytes x.merkle) [t, b, o] 3 = BB := by rw [HBB.out]; rfl
      have HR := HK.out.1
      rw [hfin] at HR
      obtain ⟨p8, c8, e8, hby8, hle8, _⟩ := HR.form
      have l80 : BB.length = 80 := by rw [← hfin, accE_length, l3]
      rw [l80] at hby8 e8 hle8
      cases e8
      have HF := Lib.hid (And.intro hby8 (And.intro hle8 (HL.out.2.trans (HK.out.2.2.1.mono (by omega)))))
      clear HR hby8 hle8 hfin l80
      go_wp2
      go_ret
      exact ⟨p, c, rfl, HF.out.1, HF.out.2.1, by rw [hgw]; exact HF.out.2.2⟩
end Go.Proofs.YtgedpgdefafofaaDoor
end

section
/- A filter's hash: both sides. -/
namespace Go.Proofs.YtgedpgdefafofaaDoor
open Go Go.RowKit
set_option linter.unusedSimpArgs false
set_option linter.unusedVariables false
set_option maxRecDepth 100000

theorem wp_appendO {P : Program} {w w' : World} {o : Oper} {a : Act} {K : Act → World → Prop} {Q : Exit → Act → World → Prop} (s x : Operand) (t : TypeId)
    (ho : o.op = .call { callee := .builtin .append, args := #[s, x], argTypes := #[t, t] }) {v1 v2 v' : Value} (hs : a.eval s = v1) (hx : a.eval x = v2)
    (hrun : (Builtin.append_ #[t, t] o.type #[v1, v2]).run P w = .ok v' w') (h : K (a.put o.dst v') w') : o.wp P a w K Q := by
  unfold Oper.wp
  simp [execOp, ho, resolve, invoke, builtin, hs, hx, hrun, Result.andThen]
  exact h
theorem hls_u8s (n : Nat) : hls n = u8s (hbytes n) := by simp [hls, hbytes, u8s]
theorem hbytes2_length (a b : Nat) : (hbytes a ++ hbytes b).length = 64 := by rw [List.length_append, hbytes_length, hbytes_length]
theorem hbytes2_range (a b : Nat) : ∀ y ∈ hbytes a ++ hbytes b, 0 ≤ y ∧ y ≤ 255 := by
  intro y hy
  rcases List.mem_append.1 hy with h | h
  · exact hbytes_range a y h
  · exact hbytes_range b y h
set_option maxHeartbeats 1600000 in
theorem psum (ys : List Int) (q : Option Addr) (c : Nat) (w : World) (G : Glob w) (hy : Lib.BytesIn w q ys.length ys) (hr : ∀ y ∈ ys, 0 ≤ y ∧ y ≤ 255) (hc : ys.length ≤ c) (hn : ys.length < 1152921504606846976) :
    Calls Tryd.prog 20 #[.slice q ys.length c] w fun e w' => e = .returned (hv (dblN ys)) ∧ Below w.heap.size w w' := by
  have K0 := (Below.refl w.heap.size w).alloc (Nat.le_refl _) (.cells hz32 24)
  have BR := Lib.hid (And.intro (Blk.new w hz32 24) K0)
  have hs0 : (w.alloc (.cells hz32 24)).heap.size = w.heap.size + 1 := by simp
  have PS := Lib.hid (pdouble ys q c _ (G.below K0) (bytes_keep hy (Keep.of_below (X := fun _ => False) K0) (fun _ _ _ h => h)) hr hc hn)
  clear K0 hy hr G
  go_enter Tryd.func20, Tryd.ntmps20
  go_upto_region 1 with fail
  generalize w.alloc (.cells hz32 24) = w0 at *
  generalize hgw : w.heap.size = rb at *
  go_wp2_with fail
  refine PS.out.mono ?_
  rintro e w1 ⟨rfl, hb1⟩
  have br := BR.out.1.beyond hb1
  have K1 := Lib.hid hb1
  clear hb1
  go_wp2_with (refine wpl_store rfl 24 (.tmp 2) (.tmp 4) rfl rfl rfl br (by rw [hcs_size]; rfl) (by rw [hcs_size]; kernel_rfl) (hcs_one _) ?_)
  have bf := br.setAll (hcs (dblN ys)) (by rw [hcs_size]; rfl)
  have b0 := BR.out.2
  have b1 := b0.trans (K1.out.mono (by rw [← hgw]; exact b0.size))
  have b2 := below_setCells (B := rb) (g := rb) (Nat.le_refl _) (hcs (dblN ys)).toList 0 w1 b1
  exact bodyPost_ret (v := hv (dblN ys)) (results_blk Tryd.results20 _ _ rfl bf Tryd.underlying24 (by rw [hcs_size]; kernel_rfl)) rfl ⟨rfl, by rw [hgw]; exact b2⟩
set_option maxHeartbeats 1600000 in
theorem rsum (ys : List Int) (q : Option Addr) (c : Nat) (w : World) (hy : Lib.BytesIn w q ys.length ys) (hr : ∀ y ∈ ys, 0 ≤ y ∧ y ≤ 255) (hn : ys.length ≤ 140737488355200) :
    Calls Tryd.prog 6 #[.slice q ys.length c] w fun e w' => e = .returned (hv (dblN ys)) ∧ Below w.heap.size w w' := by
  have K0 := (Below.refl w.heap.size w).alloc (Nat.le_refl _) (.cells hz32 24)
  have BR := Lib.hid (And.intro (Blk.new w hz32 24) K0)
  have hs0 : (w.alloc (.cells hz32 24)).heap.size = w.heap.size + 1 := by simp
  have PS := Lib.hid (rdouble ys q c _ (bytes_keep hy (Keep.of_below (X := fun _ => False) K0) (fun _ _ _ h => h)) hr hn)
  clear K0 hy hr 
  go_enter Tryd.func6, Tryd.ntmps6
  go_upto_region 1 with fail
  generalize w.alloc (.cells hz32 24) = w0 at *
  generalize hgw : w.heap.size = rb at *
  go_wp2_with fail
  refine PS.out.mono ?_
  rintro e w1 ⟨rfl, hb1⟩
  have br := BR.out.1.beyond hb1
  have K1 := Lib.hid hb1
  clear hb1
  go_wp2_with (refine wpl_store rfl 24 (.tmp 2) (.tmp 4) rfl rfl rfl br (by rw [hcs_size]; rfl) (by rw [hcs_size]; kernel_rfl) (hcs_one _) ?_)
  have bf := br.setAll (hcs (dblN ys)) (by rw [hcs_size]; rfl)
  have b0 := BR.out.2
  have b1 := b0.trans (K1.out.mono (by rw [← hgw]; exact b0.size))
  have b2 := below_setCells (B := rb) (g := rb) (Nat.le_refl _) (hcs (dblN ys)).toList 0 w1 b1
  exact bodyPost_ret (v := hv (dblN ys)) (results_blk Tryd.results6 _ _ rfl bf Tryd.underlying24 (by rw [hcs_size]; kernel_rfl)) rfl ⟨rfl, by rw [hgw]; exact b2⟩
end Go.Proofs.YtgedpgdefafofaaDoor
end

section
/- A header's hash, both sides. -/
namespace Go.Proofs.YtgedpgdefafofaaDoor
open Go Go.RowKit
set_option linter.unusedSimpArgs false
set_option linter.unusedVariables false
set_option maxRecDepth 100000

/-- a header's hash -/
def idN (x : HdrD) : Nat := dblN (hdrBytes x)
theorem blk_rangeL {w : World} {g : Nat} {cs : List Value} {t : TypeId} (h : Blk w g cs.toArray t) : w.rangeAt g 0 cs := fun j v hv => by
  rw [Nat.zero_add, h.cell, List.getElem?_toArray]; exact hv
theorem hdrInfo (x : HdrD) : (Tryd.prog.info? 26).map (·.size) = some (hdrCs x).length := by
  rw [show (hdrCs x).length = 68 from by simp [hdrCs, hls_length]]; kernel_rfl
set_option maxHeartbeats 1600000 in
theorem phid (x : HdrD) (hx : HdrOk x) (w : World) (G : Glob w) :
    Calls Tryd.prog 22 #[.agg (hdrCs x).toArray] w fun e w' => e = .returned (hv (idN x)) ∧ Below w.heap.size w w' := by
  have L := two_blocks w (hdrCs x).toArray hz32 26 24
  have hs2 : ((w.alloc (.cells (hdrCs x).toArray 26)).alloc (.cells hz32 24)).heap.size = w.heap.size + 2 := by simp
  have HL := Lib.hid (And.intro L hs2)
  have PE := Lib.hid (fun (wx : World) => phenc x hx wx)
  have hin := hdrInfo x
  clear L hs2 hx
  go_enter Tryd.func22, Tryd.ntmps22
  generalize hcs0 : hdrCs x = cs0 at *
  clear hcs0
  go_upto_region 1 with fail
  generalize (w.alloc (.cells cs0.toArray 26)).alloc (.cells hz32 24) = W at *
  generalize hgw : w.heap.size = g at *
  have hr := blk_rangeL HL.out.1.1
  have PW := Lib.hid (PE.out W)
  go_wp2_with (refine wpList_load_mid rfl 26 (.tmp 1) rfl g 0 rfl cs0 _ hr Tryd.underlying26 rfl hin ?_)
  refine PW.out.mono ?_
  rintro e w1 ⟨g1, rfl, hby, hge, hb1⟩
  have K1 := Lib.hid (HL.out.1.2.2.trans (hb1.mono (by rw [HL.out.2]; omega)))
  have bz := HL.out.1.2.1.beyond hb1
  have PD := Lib.hid (pdouble (hdrBytes x) (some ⟨g1, 0, none⟩) 80 w1 (G.below (by rw [hgw]; exact K1.out)) (by rw [hdrBytes_length]; exact hby) (hdrBytes_range x) (by rw [hdrBytes_length]; exact Nat.le_refl _) (by rw [hdrBytes_length]; decide))
  clear hb1 hby hr
  go_wp2_with fail
  refine PD.out.mono ?_
  rintro e w2 ⟨rfl, hb2⟩
  have br := bz.beyond hb2
  have K2 := K1.out.trans (hb2.mono (by rw [← hgw]; exact K1.out.size))
  have HK2 := Lib.hid K2
  have hid : dblN (hdrBytes x) = idN x := rfl
  rw [hid]
  clear hb2 bz K2 hid
  go_wp2_with (refine wpl_store rfl 24 (.tmp 2) (.tmp 5) rfl rfl rfl br (by rw [hcs_size]; rfl) (by rw [hcs_size]; kernel_rfl) (hcs_one _) ?_)
  have bf := br.setAll (hcs (idN x)) (by rw [hcs_size]; rfl)
  have b2 := below_setCells (B := g) (g := g + 1) (by omega) (hcs (idN x)).toList 0 w2 HK2.out
  exact bodyPost_ret (v := hv (idN x)) (results_blk Tryd.results22 _ _ rfl bf Tryd.underlying24 (by rw [hcs_size]; kernel_rfl)) rfl ⟨rfl, by rw [hgw]; exact b2⟩
set_option maxHeartbeats 1600000 in
theorem rhid (x : HdrD) (hx : HdrOk x) (w : World)  :
    Calls Tryd.prog 10 #[.agg (hdrCs x).toArray] w fun e w' => e = .returned (hv (idN x)) ∧ Below w.heap.size w w' := by
  have L := two_blocks w (hdrCs x).toArray hz32 26 24
  have hs2 : ((w.alloc (.cells (hdrCs x).toArray 26)).alloc (.cells hz32 24)).heap.size = w.heap.size + 2 := by simp
  have HL := Lib.hid (And.intro L hs2)
  have PE := Lib.hid (fun (wx : World) => rhenc x hx wx)
  have hin := hdrInfo x
  clear L hs2 hx
  go_enter Tryd.func10, Tryd.ntmps10
  generalize hcs0 : hdrCs x = cs0 at *
  clear hcs0
  go_upto_region 1 with fail
  generalize (w.alloc (.cells cs0.toArray 26)).alloc (.cells hz32 24) = W at *
  generalize hgw : w.heap.size = g at *
  have hr := blk_rangeL HL.out.1.1
  have PW := Lib.hid (PE.out W)
  go_wp2_with (refine wpList_load_mid rfl 26 (.tmp 1) rfl g 0 rfl cs0 _ hr Tryd.underlying26 rfl hin ?_)
  refine PW.out.mono ?_
  rintro e w1 ⟨q1, c1, rfl, hby, hle, hb1⟩
  have K1 := Lib.hid (HL.out.1.2.2.trans (hb1.mono (by rw [HL.out.2]; omega)))
  have bz := HL.out.1.2.1.beyond hb1
  have PD := Lib.hid (rdouble (hdrBytes x) q1 c1 w1 (by rw [hdrBytes_length]; exact hby) (hdrBytes_range x) (by rw [hdrBytes_length]; decide))
  clear hb1 hby hr
  go_wp2_with fail
  refine PD.out.mono ?_
  rintro e w2 ⟨rfl, hb2⟩
  have br := bz.beyond hb2
  have K2 := K1.out.trans (hb2.mono (by rw [← hgw]; exact K1.out.size))
  have HK2 := Lib.hid K2
  have hid : dblN (hdrBytes x) = idN x := rfl
  rw [hid]
  clear hb2 bz K2 hid
  go_wp2_with (refine wpl_store rfl 24 (.tmp 2) (.tmp 5) rfl rfl rfl br (by rw [hcs_size]; rfl) (by rw [hcs_size]; kernel_rfl) (hcs_one _) ?_)
  have bf := br.setAll (hcs (idN x)) (by rw [hcs_size]; rfl)
  have b2 := below_setCells (B := g) (g := g + 1) (by omega) (hcs (idN x)).toList 0 w2 HK2.out
  exact bodyPost_ret (v := hv (idN x)) (results_blk Tryd.results10 _ _ rfl bf Tryd.underlying24 (by rw [hcs_size]; kernel_rfl)) rfl ⟨rfl, by rw [hgw]; exact b2⟩
end Go.Proofs.YtgedpgdefafofaaDoor
end
