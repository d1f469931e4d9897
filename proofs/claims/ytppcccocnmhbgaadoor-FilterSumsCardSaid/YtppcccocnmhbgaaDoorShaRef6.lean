/- SHA-256, the document's: Sum, Double. -/
import Derived.Test.YtppcccocnmhbgaaDoorShaRef5
namespace Go.Proofs.YtppcccocnmhbgaaDoor
open Go Go.RowKit
set_option linter.unusedSimpArgs false
set_option linter.unusedVariables false
set_option maxRecDepth 100000

theorem msgX_at (bs : List Int) (a : Nat) (i : Nat) (hi : i < 16) : msgX (fun j => bs.getD (a + j) 0) i = msgAt bs a i := by
  unfold msgX msgAt
  simp only [Nat.add_assoc]
theorem padS_range (ys : List Int) (hr : ∀ y ∈ ys, 0 ≤ y ∧ y ≤ 255) : ∀ y ∈ padS ys, 0 ≤ y ∧ y ≤ 255 := by
  intro y hy
  rw [padS_tail, List.mem_append] at hy
  rcases hy with h | h
  · exact hr y h
  · exact tailS_range _ y h
theorem getD_range {l : List Int} (h : ∀ y ∈ l, 0 ≤ y ∧ y ≤ 255) (i : Nat) : 0 ≤ l.getD i 0 ∧ l.getD i 0 ≤ 255 := by
  rw [List.getD_eq_getElem?_getD]
  by_cases hi : i < l.length
  · rw [List.getElem?_eq_getElem hi]; exact h _ (List.getElem_mem hi)
  · rw [List.getElem?_eq_none (by omega)]; exact ⟨Int.le_refl 0, by decide⟩
theorem u32c_s0 : (#[.int .u32 1779033703, .int .u32 3144134277, .int .u32 1013904242, .int .u32 2773480762, .int .u32 1359893119, .int .u32 2600822924, .int .u32 528734635, .int .u32 1541459225] : Array Value) = (u32c s0 8).toArray := by kernel_rfl
/-- the hash's bytes, so many of them -/
def obF (σ : Nat → B32) (j i : Nat) : Int := if i < j then ((hashByte σ i : Nat) : Int) else 0
theorem ob_set (σ : Nat → B32) (j : Nat) (h : j < 32) : (u8c (obF σ j) 32).toArray.setIfInBounds j (.int .u8 (hashByte σ j : Nat)) = (u8c (obF σ (j + 1)) 32).toArray := by
  rw [List.setIfInBounds_toArray]
  congr 1
  apply List.ext_getElem?
  intro i
  rw [List.getElem?_set]
  by_cases hj : j = i
  · subst hj
    rw [if_pos rfl, if_pos (by rw [u8c_length]; exact h), u8c_get _ _ _ h]
    unfold obF; rw [if_pos (by omega)]
  · rw [if_neg hj]
    by_cases hi : i < 32
    · rw [u8c_get _ _ _ hi, u8c_get _ _ _ hi]
      unfold obF
      by_cases h1 : i < j
      · rw [if_pos h1, if_pos (by omega)]
      · rw [if_neg h1, if_neg (by omega)]
    · rw [List.getElem?_eq_none (by rw [u8c_length]; omega), List.getElem?_eq_none (by rw [u8c_length]; omega)]
theorem ob_hash (σ : Nat → B32) : u8c (obF σ 32) 32 = hls (hnum (fun j => ((hashByte σ j : Nat) : Int)) 32) := by
  rw [← hls_of (fun j => ((hashByte σ j : Nat) : Int)) (fun i _ => by have := hashByte_lt σ i; omega)]
  unfold u8c
  apply List.map_congr_left
  intro i hi
  unfold obF
  rw [if_pos (List.mem_range.1 hi)]
abbrev hz32 : Array Value := #[.int .u8 0, .int .u8 0, .int .u8 0, .int .u8 0, .int .u8 0, .int .u8 0, .int .u8 0, .int .u8 0, .int .u8 0, .int .u8 0, .int .u8 0, .int .u8 0, .int .u8 0, .int .u8 0, .int .u8 0, .int .u8 0, .int .u8 0, .int .u8 0, .int .u8 0, .int .u8 0, .int .u8 0, .int .u8 0, .int .u8 0, .int .u8 0, .int .u8 0, .int .u8 0, .int .u8 0, .int .u8 0, .int .u8 0, .int .u8 0, .int .u8 0, .int .u8 0]
theorem ob_zero (σ : Nat → B32) : hz32 = (u8c (obF σ 0) 32).toArray := by
  show _ = ((List.range 32).map fun i => Value.int .u8 (if i < 0 then ((hashByte σ i : Nat) : Int) else 0)).toArray
  rw [List.map_congr_left (g := fun _ => Value.int .u8 0) (fun j _ => by rw [if_neg (by omega)])]
  rfl
theorem u32info8 (σ : Nat → B32) : (Tryd.prog.info? 52).map (·.size) = some (u32c σ 8).toArray.size := by rw [List.size_toArray, u32c_length]; kernel_rfl
theorem u32all (σ : Nat → B32) : (u32c σ 8).toArray.all (·.oneCell') = true := by
  rw [Array.all_eq_true_iff_forall_mem]
  intro u hu
  exact u32c_one _ _ u (by simpa using hu)
theorem u32range {w : World} {g : Nat} {σ : Nat → B32} {t : TypeId} (h : Blk w g (u32c σ 8).toArray t) : w.rangeAt g 0 (u32c σ 8) := fun j v hv => by
  rw [Nat.zero_add, h.cell]; simpa using hv
theorem u32next (xs : List Int) (k : Nat) : u32c (blockS (blocksS xs k) (msgX fun j => xs.getD (64 * k + j) 0)) 8 = u32c (blocksS xs (k + 1)) 8 :=
  u32c_ext fun i hi => blockS_congr (fun _ _ => rfl) (fun j hj => msgX_at _ _ _ hj) i hi
set_option maxHeartbeats 6400000 in
theorem rsha (ys : List Int) (q : Option Addr) (c : Nat) (w : World) (hy : Lib.BytesIn w q ys.length ys) (hr : ∀ y ∈ ys, 0 ≤ y ∧ y ≤ 255) (hn : ys.length ≤ 140737488355200) :
    Calls Tryd.prog 15 #[.slice q ys.length c] w fun e w' => e = .returned (hv (shaN ys)) ∧ Below w.heap.size w w' := by
  have L := two_new w hz32 #[.int .u32 1779033703, .int .u32 3144134277, .int .u32 1013904242, .int .u32 2773480762, .int .u32 1359893119, .int .u32 2600822924, .int .u32 528734635, .int .u32 1541459225] 24 52
  have hs2 : ((w.alloc (.cells hz32 24)).alloc (.cells #[.int .u32 1779033703, .int .u32 3144134277, .int .u32 1013904242, .int .u32 2773480762, .int .u32 1359893119, .int .u32 2600822924, .int .u32 528734635, .int .u32 1541459225] 52)).heap.size = w.heap.size + 2 := by simp
  have PP := Lib.hid (rpadded ys q c _ (bytes_keep hy (Keep.of_below (X := fun _ => False) L.2.2) (fun _ _ _ h => h)) hn)
  have HR := Lib.hid hr
  have HL := Lib.hid L
  have HS2 := Lib.hid hs2
  clear L hy hr hs2
  go_enter Tryd.func15, Tryd.ntmps15
  go_upto_region 2 with fail
  generalize (w.alloc (.cells hz32 24)).alloc (.cells #[.int .u32 1779033703, .int .u32 3144134277, .int .u32 1013904242, .int .u32 2773480762, .int .u32 1359893119, .int .u32 2600822924, .int .u32 528734635, .int .u32 1541459225] 52) = w2 at *
  generalize hgw : w.heap.size = rb at *
  rw [u32c_s0] at HL
  go_wp2_with fail
  refine PP.out.mono ?_
  rintro e w3 ⟨p, c', o, rfl, R3, hg3, hb3⟩
  have HT64 := padS_mod ys
  have HTp : 0 < (padS ys).length := by rw [padS_length]; omega
  have HTm : (padS ys).length ≤ 140737488355300 := by rw [padS_length]; have := zpad_lt ys.length; omega
  obtain ⟨q3, c3, e3, BI, hle, hcm, hq3⟩ := R3.form
  cases e3
  obtain ⟨g, rfl, rfl, hgl⟩ : ∃ g, o = some g ∧ p = some ⟨g, 0, none⟩ ∧ g < w3.heap.size := by
    rcases hq3 with ⟨_, h, _⟩ | h
    · rw [h] at HTp; simp at HTp
    · exact h
  have hgb := hg3 g rfl
  rw [HS2.out] at hgb
  have HBI := Lib.hid BI
  have BS3 := Lib.hid (And.intro (HL.out.2.1.beyond hb3) hb3)
  generalize hxs : padS ys = xs at *
  generalize hT : xs.length = T at *
  unfold maxLen at hcm
  have HX := Lib.hid hxs
  have HHT := Lib.hid hT
  have HMOD := Lib.hid HT64
  clear R3 hg3 hb3 BI hq3 hxs hT HT64 PP
  go_wp2_with fail
  go_loopg [5] (T / 64) (fun gh v wx => ∃ k A : Nat, A ≤ T ∧ v = .int .i64 (A : Int) ∧ gh = T / 64 - k ∧ Hid (A = 64 * k ∧ Blk wx (rb + 1) (u32c (blocksS xs k) 8).toArray 52 ∧ Keep (fun g => g = rb + 1) w3 wx))
  case atStart => exact ⟨0, 0, Nat.zero_le _, rfl, rfl, rfl, BS3.out.1, Keep.refl _ _⟩
  case round =>
    obtain ⟨k, A, hA, rfl, hg, HK⟩ := hrel
    have HGK := Lib.hid hg
    clear hg
    by_cases hlt : A < T
    · have h64 : A + 64 ≤ T := by have h1 := HK.out.1; have h2 := HMOD.out; omega
      have hcc : A + 64 ≤ c' := by omega
      have HB1 := HK.out.2.1
      have HD := Lib.hid (And.intro HK.out.2.2 HB1)
      have hgr : g < wr.heap.size := Nat.lt_of_lt_of_le hgl HK.out.2.2.size
      have cells : ∀ w0, Below wr.heap.size wr w0 → ∀ j, j < 64 → w0.cell? ⟨g, A + j, none⟩ = some (.int .u8 (xs.getD (A + j) 0)) := fun w0 hb j hj => by
        rw [hb.cell (p := ⟨g, A + j, none⟩) hgr, HK.out.2.2.cell (p := ⟨g, A + j, none⟩) hgl (by show ¬ g = rb + 1; omega)]
        obtain ⟨b, o, e, hc⟩ := HBI.out.at HTp
        cases e
        have := hc (A + j) (by omega)
        rw [Nat.zero_add] at this; exact this
      have RM := Lib.hid (fun w0 hb => rmix (blocksS xs k) g A (c' - A) (fun j => xs.getD (A + j) 0) (fun j _ => getD_range (by rw [← HX.out]; exact padS_range ys HR.out) _) w0 (cells w0 hb))
      have LD : ∀ w0, Below wr.heap.size wr w0 → w0.rangeAt (rb + 1) 0 (u32c (blocksS xs k) 8) := fun w0 hb => u32range (HB1.beyond hb)
      have HLD := Lib.hid LD
      have I8 := u32info8 (blocksS xs k)
      have hrbl := HB1.lt
      have HBB := Lib.hid HB1
      have s1 : IntKind.i64.wrap ((A : Int) + 64) = (A : Int) + 64 := by rw [IntKind.wrap_i64]; omega
      have s2 : 0 ≤ (A : Int) + 64 := by omega
      have s3 : (A : Int) + 64 ≤ (c' : Int) := by omega
      have s4 : ((A : Int) + 64).toNat = A + 64 := by omega
      have s5 : ¬ c' = A := by omega
      have s6 : A + 64 - A = 64 := by omega
      have s7 : A ≤ A + 64 := by omega
      clear cells LD HB1
      go_upto_region 6 with fail
      refine wp_region_last 7 (fun w' => Below wr.heap.size wr w') (by kernel_rfl) ((Below.refl _ _).drew) (fun hS => ?_)
      refine wpAnyL_take (i := 0) (oi := ⟨_, _, _, _, _, _⟩) (v := .agg (u32c (blocksS xs k) 8).toArray) rfl (by kernel_rfl) (by kernel_rfl) (by kernel_rfl) (by kernel_rfl) (fun _ _ _ h => h) (yieldsIf_load_mid (by rfl) 52 (.tmp 3) rfl (rb + 1) 0 rfl (u32c (blocksS xs k) 8) (.array 8 51) (fun w0 hs => HLD.out w0 hs) Tryd.underlying52 rfl I8) hS ?_
      try simp only [Act.put, List.setIfInBounds_toArray, List.set_cons_zero, List.set_cons_succ]
      refine wpAnyL_take (i := 1) (oi := ⟨_, _, _, _, _, _⟩) (v := ?_) rfl (by kernel_rfl) (by kernel_rfl) (by kernel_rfl) (by kernel_rfl) (fun _ _ _ h => h) (Or.inl ⟨by rfl, ?_⟩) hS ?_
      rotate_left
      · intro w0 hs; clear hs; go_simp; try (with_reducible rfl)
      try simp only [Act.put, List.setIfInBounds_toArray, List.set_cons_zero, List.set_cons_succ]
      refine wpAnyL_take (i := 2) (oi := ⟨_, _, _, _, _, _⟩) (v := ?_) rfl (by kernel_rfl) (by kernel_rfl) (by kernel_rfl) (by kernel_rfl) (fun _ _ _ h => h) (Or.inl ⟨by rfl, ?_⟩) hS ?_
      rotate_left
      · intro w0 hs; clear hs; go_simp; try (with_reducible rfl)
      try simp only [Act.put, List.setIfInBounds_toArray, List.set_cons_zero, List.set_cons_succ]
      refine wpAnyL_take (i := 3) (oi := ⟨_, _, _, _, _, _⟩) (v := ?_) rfl (by kernel_rfl) (by kernel_rfl) (by kernel_rfl) (by kernel_rfl) (fun _ _ _ h => h) (Or.inl ⟨by rfl, ?_⟩) hS ?_
      rotate_left
      · intro w0 hs; clear hs; go_simp; try (with_reducible rfl)
      try simp only [Act.put, List.setIfInBounds_toArray, List.set_cons_zero, List.set_cons_succ]
      refine wpAnyL_take (i := 4) (oi := ⟨_, _, _, _, _, _⟩) (v := ?_) rfl (by kernel_rfl) (by kernel_rfl) (by kernel_rfl) (by kernel_rfl) (fun _ _ _ h => h) (Or.inl ⟨by rfl, ?_⟩) hS ?_
      rotate_left
      · intro w0 hs; clear hs; go_simp; try (with_reducible rfl)
      try simp only [Act.put, List.setIfInBounds_toArray, List.set_cons_zero, List.set_cons_succ]
      refine wpAnyL_take (i := 5) (oi := ⟨_, _, _, _, _, _⟩) (v := ?_) rfl (by kernel_rfl) (by kernel_rfl) (by kernel_rfl) (by kernel_rfl) (fun _ _ _ h => h) (Or.inl ⟨by rfl, ?_⟩) hS ?_
      rotate_left
      · intro w0 hs; clear hs; go_simp; try (with_reducible rfl)
      try simp only [Act.put, List.setIfInBounds_toArray, List.set_cons_zero, List.set_cons_succ]
      refine wpAnyL_one (i := 6) (oi := ⟨_, _, _, _, _, _⟩) rfl (by kernel_rfl) (fun K hK => ?_)
      rw [if_pos (by rfl)]
      go_step
      refine (RM.out _ hS).mono ?_
      rintro e v1 ⟨rfl, hv1⟩
      simp only []
      have hS' := (hS.trans (hv1.mono hS.size))
      refine hK.out _ _ (.inr hS') ?_
      clear hS hK
      have hS := hS'; clear hS'
      try simp only [Act.put, List.setIfInBounds_toArray, List.set_cons_zero, List.set_cons_succ]
      refine wpAnyL_one (i := 7) (oi := ⟨_, _, _, _, _, _⟩) rfl (by kernel_rfl) (fun K hK => ?_)
      rw [if_pos (by rfl)]
      have BL := HBB.out.beyond hS
      refine wp_store_mid 52 (.tmp 3) (.tmp 23) rfl (rb + 1) 0 (u32c (blockS (blocksS xs k) (msgX fun j => xs.getD (A + j) 0)) 8).toArray rfl rfl (by have := BL.there; rw [List.size_toArray, u32c_length] at this ⊢; exact this) (u32info8 _) (u32all _) ?_
      refine hK.out _ _ (.inl rfl) ?_
      clear hK
      try simp only [Act.put, List.setIfInBounds_toArray, List.set_cons_zero, List.set_cons_succ]
      refine wpAnyL_done (by kernel_rfl) ?_ _
      have HE := Lib.hid (And.intro hS BL)
      clear hS BL hv1 s1 s2 s3 s4 s5 s6 s7
      go_wp2
      go_roundg (T / 64 - (k + 1))
      case measure => rw [HGK.out]; have := HK.out.1; omega
      case rel =>
        refine ⟨k + 1, A + 64, h64, rfl, rfl, by rw [HK.out.1]; omega, ?_, ?_⟩
        · have := HE.out.2.setAll (u32c (blockS (blocksS xs k) (msgX fun j => xs.getD (A + j) 0)) 8).toArray (by simp [u32c_length])
          rw [show u32c (blocksS xs (k + 1)) 8 = u32c (blockS (blocksS xs k) (msgX fun j => xs.getD (A + j) 0)) 8 from by rw [HK.out.1, u32next]]
          exact this
        · exact HK.out.2.2.trans ((Keep.of_below HE.out.1).trans (Keep.setCells (X := fun g => g = rb + 1) (.inl rfl) _ _ (Keep.refl _ _)))
    · have hkk : k = T / 64 := by have h1 := HK.out.1; have h2 := HMOD.out; omega
      have HS8 : Hid (shaN ys = hnum (fun j => ((hashByte (blocksS xs k) j : Nat) : Int)) 32) := by
        unfold shaN
        rw [HX.out, HHT.out, hkk]; exact rfl
      have BX := HK.out.2
      obtain ⟨σ, hσ⟩ : ∃ σ, σ = blocksS xs k := ⟨_, rfl⟩
      rw [← hσ] at BX HS8
      have B8 := Lib.hid (BX.1.beyond ((Below.refl wr.heap.size wr).alloc (Nat.le_refl _) (.cells hz32 24)))
      have BH := Lib.hid (And.intro (Blk.new wr hz32 24) ((Below.refl wr.heap.size wr).alloc (Nat.le_refl _) (.cells hz32 24)))
      have hsb := BX.1.lt
      have KX := Lib.hid (BX.2)
      have K33 := Lib.hid BS3.out.2
      clear hσ hkk BX HK HGK
      go_upto_region 8 with fail
      generalize wr.alloc (.cells hz32 24) = w8 at *
      generalize hhb : wr.heap.size = hb at *
      rw [ob_zero σ] at BH
      go_wp2
      go_loopg [24] 32 (fun gh v wx => ∃ j : Nat, j ≤ 32 ∧ v = .int .i64 (j : Int) ∧ gh = 32 - j ∧ Hid (Blk wx hb (u8c (obF σ j) 32).toArray 24 ∧ Keep (fun g => g = hb) w8 wx))
      case atStart => exact ⟨0, Nat.zero_le _, rfl, rfl, BH.out.1, Keep.refl _ _⟩
      case round =>
        obtain ⟨j, hj, rfl, hg, HJ⟩ := hrel
        have HGJ := Lib.hid hg
        clear hg
        by_cases hlt : j < 32
        · have hqb : (j : Int) / 4 = ((j / 4 : Nat) : Int) := by omega
          have cz : wr.cell? ⟨rb + 1, j / 4, none⟩ = some (.int .u32 (iv (σ (j / 4)))) := by
            rw [(HJ.out.2.blk B8.out (by omega)).cell, List.getElem?_toArray]; exact u32c_get σ 8 _ (by omega)
          have fz := HJ.out.1.free j
          have cb := (HJ.out.1).cell j
          rw [List.getElem?_toArray, u8c_get _ _ _ hlt] at cb
          have q1 : ((j : Int) / 4).toNat = j / 4 := by omega
          have q2 : 0 ≤ (j : Int) / 4 := by omega
          have q3 : (j : Int) / 4 < 8 := by omega
          have q4 : IntKind.i64.wrap (8 * ((j : Int) % 4)) = 8 * ((j : Int) % 4) := by rw [IntKind.wrap_i64]; omega
          have q5 : IntKind.i64.wrap (24 - 8 * ((j : Int) % 4)) = 24 - 8 * ((j : Int) % 4) := by rw [IntKind.wrap_i64]; omega
          have q6 : 0 ≤ 24 - 8 * ((j : Int) % 4) := by omega
          have hbt : iv (σ (j / 4)) / 2 ^ (24 - 8 * (j % 4)) % 256 = ((hashByte σ j : Nat) : Int) := by
            unfold iv hashByte; simp
          clear hqb
          have HBT := Lib.hid hbt
          clear hbt
          go_wp2
          go_roundg (32 - (j + 1))
          case measure => rw [HGJ.out]; omega
          case rel =>
            refine ⟨j + 1, hlt, rfl, rfl, ?_, HJ.out.2.trans ((Keep.refl (fun g => g = hb) wr).set (p := ⟨hb, j, none⟩) (.inl rfl) _)⟩
            have := HJ.out.1.set j (.int .u8 (hashByte σ j : Nat))
            rw [ob_set σ j hlt, ← HBT.out] at this
            exact this
        · obtain rfl : j = 32 := by omega
          obtain ⟨H, hH⟩ : ∃ H, H = hnum (fun j => ((hashByte σ j : Nat) : Int)) 32 := ⟨_, rfl⟩
          have bo : Blk wr hb (hcs H) 24 := by
            have := HJ.out.1
            rw [ob_hash, ← hH] at this
            exact this
          rw [← hH] at HS8
          clear hH
          have kk : Keep (fun g => g = rb + 1 ∨ g = hb) w2 wr := (((Keep.of_below K33.out).trans (KX.out.mono fun g h => .inl h)).trans (Keep.of_below (by rw [hhb]; exact BH.out.2))).trans (HJ.out.2.mono fun g h => .inr h)
          have h3b : w2.heap.size ≤ hb := by
            have h1 := K33.out.size
            have h2 := KX.out.size
            omega
          have br := kk.blk HL.out.1 (by have := HS2.out; omega)
          have KK := Lib.hid kk
          have H3B := Lib.hid h3b
          clear kk h3b
          go_wp2_with (first | (refine wpl_load rfl 24 (.tmp 6) rfl rfl bo Tryd.underlying24 (by rw [hcs_size]; kernel_rfl) ?_) | (refine wpl_store rfl 24 (.tmp 2) (.tmp 40) rfl rfl rfl br (by rw [hcs_size]; rfl) (by rw [hcs_size]; kernel_rfl) (hcs_one H) ?_))
          have bf := br.setAll (hcs H) (by rw [hcs_size]; rfl)
          have b0 := HL.out.2.2
          have b1 := b0.trans (KK.out.below (by rw [← hgw]; exact b0.size) (fun g h => by have := H3B.out; have := HS2.out; rcases h with h | h <;> omega))
          have b2 := below_setCells (B := rb) (g := rb) (Nat.le_refl _) (hcs H).toList 0 wr b1
          exact bodyPost_ret (v := hv H) (results_blk Tryd.results15 _ _ rfl bf Tryd.underlying24 (by rw [hcs_size]; kernel_rfl)) rfl ⟨by rw [HS8.out], by rw [hgw]; exact b2⟩
end Go.Proofs.YtppcccocnmhbgaaDoor
