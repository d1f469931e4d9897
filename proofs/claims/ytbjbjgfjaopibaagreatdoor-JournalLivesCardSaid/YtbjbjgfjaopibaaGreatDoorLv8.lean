import Derived.Test.YtbjbjgfjaopibaaGreatDoorLv7
import Derived.Test.YtbjbjgfjaopibaaGreatDoorLv4
import Derived.Test.YtbjbjgfjaopibaaGreatDoorLv1
import Derived.Test.YtbjbjgfjaopibaaGreatDoorRows
import Derived.Deep.Slices
import Derived.Deep.Strs
import Derived.SizedLaws
section
/- SHA-256, the program's: sha.Sum, Double. -/
namespace Go.Proofs.YtbjbjgfjaopibaaGreatDoor
open Go Go.RowKit
set_option linter.unusedSimpArgs false
set_option linter.unusedVariables false
set_option maxRecDepth 100000

/-- a hash's bytes -/
def hbytes (n : Nat) : List Int := (List.range 32).map fun j => byt n j
theorem hbytes_length (n : Nat) : (hbytes n).length = 32 := by simp [hbytes]
theorem hbytes_range (n : Nat) : ∀ y ∈ hbytes n, 0 ≤ y ∧ y ≤ 255 := by
  intro y hy
  obtain ⟨j, _, rfl⟩ := List.mem_map.1 hy
  have := byt_range n j
  omega
theorem hbytes_in {w : World} {g n : Nat} {t : TypeId} (h : Blk w g (hcs n) t) : Lib.BytesIn w (some ⟨g, 0, none⟩) (hbytes n).length (hbytes n) := Lib.BytesIn.of_cells fun i hi => by
  rw [hbytes_length] at hi
  rw [Addr.add_lit, Nat.zero_add, h.cell, hcs_get n i hi, List.getD_eq_getElem?_getD]
  simp [hbytes, hi]
/-- SHA-256 twice -/
def dblN (bs : List Int) : Nat := shaN (hbytes (shaN bs))
theorem shaN_lt (bs : List Int) : shaN bs < W256 := hnum_lt _ 32 (fun i _ => by have := hashByte_lt (blocksS (padS bs) ((padS bs).length / 64)) i; omega)
set_option maxHeartbeats 3200000 in
theorem psha (ys : List Int) (q : Option Addr) (c : Nat) (w : World) (G : Glob w) (hy : Lib.BytesIn w q ys.length ys) (hr : ∀ y ∈ ys, 0 ≤ y ∧ y ≤ 255) (hc : ys.length ≤ c) (hn : ys.length < 1152921504606846976) :
    Calls Tryz.prog 83 #[.slice q ys.length c] w fun e w' => e = .returned (hv (shaN ys)) ∧ Below w.heap.size w w' := by
  have K0 := (Below.refl w.heap.size w).alloc (Nat.le_refl _) (.cells #[.int .u8 0, .int .u8 0, .int .u8 0, .int .u8 0, .int .u8 0, .int .u8 0, .int .u8 0, .int .u8 0, .int .u8 0, .int .u8 0, .int .u8 0, .int .u8 0, .int .u8 0, .int .u8 0, .int .u8 0, .int .u8 0, .int .u8 0, .int .u8 0, .int .u8 0, .int .u8 0, .int .u8 0, .int .u8 0, .int .u8 0, .int .u8 0, .int .u8 0, .int .u8 0, .int .u8 0, .int .u8 0, .int .u8 0, .int .u8 0, .int .u8 0, .int .u8 0] 104)
  have BR := Lib.hid (And.intro (Blk.new w #[.int .u8 0, .int .u8 0, .int .u8 0, .int .u8 0, .int .u8 0, .int .u8 0, .int .u8 0, .int .u8 0, .int .u8 0, .int .u8 0, .int .u8 0, .int .u8 0, .int .u8 0, .int .u8 0, .int .u8 0, .int .u8 0, .int .u8 0, .int .u8 0, .int .u8 0, .int .u8 0, .int .u8 0, .int .u8 0, .int .u8 0, .int .u8 0, .int .u8 0, .int .u8 0, .int .u8 0, .int .u8 0, .int .u8 0, .int .u8 0, .int .u8 0, .int .u8 0] 104) K0)
  have G0 := G.below K0
  have HY := Lib.hid (bytes_keep hy (Keep.of_below (X := fun _ => False) K0) (fun _ _ _ h => h))
  have hg0 := cell_lt (G.1 0 (by decide))
  have hg1 := cell_lt (G.2 0 (by decide))
  have PN := Lib.hid (psnew _ G0)
  have HG0 := Lib.hid G0
  have HR := Lib.hid hr
  have HQ := Lib.hid (bytes_lt hy)
  have hs0 : (w.alloc (.cells #[.int .u8 0, .int .u8 0, .int .u8 0, .int .u8 0, .int .u8 0, .int .u8 0, .int .u8 0, .int .u8 0, .int .u8 0, .int .u8 0, .int .u8 0, .int .u8 0, .int .u8 0, .int .u8 0, .int .u8 0, .int .u8 0, .int .u8 0, .int .u8 0, .int .u8 0, .int .u8 0, .int .u8 0, .int .u8 0, .int .u8 0, .int .u8 0, .int .u8 0, .int .u8 0, .int .u8 0, .int .u8 0, .int .u8 0, .int .u8 0, .int .u8 0, .int .u8 0] 104)).heap.size = w.heap.size + 1 := by simp
  clear G K0 G0 hy hr
  go_enter Tryz.func83, Tryz.ntmps83
  go_upto_region 1 with fail
  generalize w.alloc (.cells #[.int .u8 0, .int .u8 0, .int .u8 0, .int .u8 0, .int .u8 0, .int .u8 0, .int .u8 0, .int .u8 0, .int .u8 0, .int .u8 0, .int .u8 0, .int .u8 0, .int .u8 0, .int .u8 0, .int .u8 0, .int .u8 0, .int .u8 0, .int .u8 0, .int .u8 0, .int .u8 0, .int .u8 0, .int .u8 0, .int .u8 0, .int .u8 0, .int .u8 0, .int .u8 0, .int .u8 0, .int .u8 0, .int .u8 0, .int .u8 0, .int .u8 0, .int .u8 0] 104) = w0 at *
  generalize hgw : w.heap.size = rb at *
  go_wp2_with fail
  refine PN.out.mono ?_
  rintro e w1 ⟨rfl, hB1, hb1⟩
  rw [hs0] at hB1
  have PW := Lib.hid (pswrite (rb + 1) [] ys q c w1 (HG0.out.below hb1) ⟨by show rb + 1 ≠ 0; have : 0 < rb := hg0; omega, by show rb + 1 ≠ 1; have : 1 < rb := hg1; omega⟩ ⟨s0, fun _ => 0, hB1, HS.nil⟩ (bytes_keep HY.out (Keep.of_below (X := fun _ => False) hb1) (fun _ _ _ h => h)) HR.out hc (fun h0 p hp => by have := HQ.out h0 p hp; omega) (by simp; omega))
  have HB1 := Lib.hid hb1
  rw [hs0]
  clear hB1 hb1
  go_wp2_with fail
  refine PW.out.mono ?_
  rintro e w2 ⟨rfl, hH, hk⟩
  rw [List.nil_append] at hH
  have k02 : Keep (fun g => g = rb + 1) w0 w2 := (Keep.of_below HB1.out).trans hk
  have K2 := Lib.hid k02
  have PS := Lib.hid (pssum (rb + 1) ys w2 (HG0.out.keep' k02 ⟨by have : 0 < rb := hg0; omega, by have : 1 < rb := hg1; omega⟩) hH hn)
  clear hH hk k02
  go_wp2_with fail
  refine PS.out.mono ?_
  rintro e w3 ⟨rfl, hb3⟩
  have k3 : Keep (fun g => g = rb + 1) w0 w3 := K2.out.trans (Keep.of_below hb3)
  have br := k3.blk BR.out.1 (by omega)
  have K3 := Lib.hid k3
  clear k3 hb3
  go_wp2_with (refine wpl_store rfl 104 (.tmp 2) (.tmp 9) rfl rfl rfl br (by rw [hcs_size]; rfl) (by rw [hcs_size]; kernel_rfl) (hcs_one _) ?_)
  have bf := br.setAll (hcs (shaN ys)) (by rw [hcs_size]; rfl)
  have b0 := BR.out.2
  have b1 := b0.trans (K3.out.below (by rw [← hgw]; exact b0.size) (fun g h => by rw [h]; omega))
  have b2 := below_setCells (B := rb) (g := rb) (Nat.le_refl _) (hcs (shaN ys)).toList 0 w3 b1
  exact bodyPost_ret (v := hv (shaN ys)) (results_blk Tryz.results83 _ _ rfl bf Tryz.underlying104 (by rw [hcs_size]; kernel_rfl)) rfl ⟨rfl, by rw [hgw]; exact b2⟩
/-- a variable of type api.Hash, new, is given a value -/
theorem storeH (n : Nat) (w : World) : (storeCells ⟨w.heap.size, 0, none⟩ (hcs n).toList).run Tryz.prog (w.alloc (.cells #[.int .u8 0, .int .u8 0, .int .u8 0, .int .u8 0, .int .u8 0, .int .u8 0, .int .u8 0, .int .u8 0, .int .u8 0, .int .u8 0, .int .u8 0, .int .u8 0, .int .u8 0, .int .u8 0, .int .u8 0, .int .u8 0, .int .u8 0, .int .u8 0, .int .u8 0, .int .u8 0, .int .u8 0, .int .u8 0, .int .u8 0, .int .u8 0, .int .u8 0, .int .u8 0, .int .u8 0, .int .u8 0, .int .u8 0, .int .u8 0, .int .u8 0, .int .u8 0] 104)) = .ok () (w.alloc (.cells (hcs n) 104)) :=
  store_new w _ _ _ (by rw [hcs_size]; rfl) (hcs_one n)
set_option maxHeartbeats 3200000 in
theorem pdouble (ys : List Int) (q : Option Addr) (c : Nat) (w : World) (G : Glob w) (hy : Lib.BytesIn w q ys.length ys) (hr : ∀ y ∈ ys, 0 ≤ y ∧ y ≤ 255) (hc : ys.length ≤ c) (hn : ys.length < 1152921504606846976) :
    Calls Tryz.prog 68 #[.slice q ys.length c] w fun e w' => e = .returned (hv (dblN ys)) ∧ Below w.heap.size w w' := by
  have K0 := (Below.refl w.heap.size w).alloc (Nat.le_refl _) (.cells #[.int .u8 0, .int .u8 0, .int .u8 0, .int .u8 0, .int .u8 0, .int .u8 0, .int .u8 0, .int .u8 0, .int .u8 0, .int .u8 0, .int .u8 0, .int .u8 0, .int .u8 0, .int .u8 0, .int .u8 0, .int .u8 0, .int .u8 0, .int .u8 0, .int .u8 0, .int .u8 0, .int .u8 0, .int .u8 0, .int .u8 0, .int .u8 0, .int .u8 0, .int .u8 0, .int .u8 0, .int .u8 0, .int .u8 0, .int .u8 0, .int .u8 0, .int .u8 0] 104)
  have BR := Lib.hid (And.intro (Blk.new w #[.int .u8 0, .int .u8 0, .int .u8 0, .int .u8 0, .int .u8 0, .int .u8 0, .int .u8 0, .int .u8 0, .int .u8 0, .int .u8 0, .int .u8 0, .int .u8 0, .int .u8 0, .int .u8 0, .int .u8 0, .int .u8 0, .int .u8 0, .int .u8 0, .int .u8 0, .int .u8 0, .int .u8 0, .int .u8 0, .int .u8 0, .int .u8 0, .int .u8 0, .int .u8 0, .int .u8 0, .int .u8 0, .int .u8 0, .int .u8 0, .int .u8 0, .int .u8 0] 104) K0)
  have G0 := G.below K0
  have hs0 : (w.alloc (.cells #[.int .u8 0, .int .u8 0, .int .u8 0, .int .u8 0, .int .u8 0, .int .u8 0, .int .u8 0, .int .u8 0, .int .u8 0, .int .u8 0, .int .u8 0, .int .u8 0, .int .u8 0, .int .u8 0, .int .u8 0, .int .u8 0, .int .u8 0, .int .u8 0, .int .u8 0, .int .u8 0, .int .u8 0, .int .u8 0, .int .u8 0, .int .u8 0, .int .u8 0, .int .u8 0, .int .u8 0, .int .u8 0, .int .u8 0, .int .u8 0, .int .u8 0, .int .u8 0] 104)).heap.size = w.heap.size + 1 := by simp
  have PS := Lib.hid (psha ys q c _ G0 (bytes_keep hy (Keep.of_below (X := fun _ => False) K0) (fun _ _ _ h => h)) hr hc hn)
  have HG0 := Lib.hid G0
  clear G K0 G0 hy hr
  go_enter Tryz.func68, Tryz.ntmps68
  go_upto_region 1 with fail
  generalize w.alloc (.cells #[.int .u8 0, .int .u8 0, .int .u8 0, .int .u8 0, .int .u8 0, .int .u8 0, .int .u8 0, .int .u8 0, .int .u8 0, .int .u8 0, .int .u8 0, .int .u8 0, .int .u8 0, .int .u8 0, .int .u8 0, .int .u8 0, .int .u8 0, .int .u8 0, .int .u8 0, .int .u8 0, .int .u8 0, .int .u8 0, .int .u8 0, .int .u8 0, .int .u8 0, .int .u8 0, .int .u8 0, .int .u8 0, .int .u8 0, .int .u8 0, .int .u8 0, .int .u8 0] 104) = w0 at *
  generalize hgw : w.heap.size = rb at *
  go_wp2_with fail
  refine PS.out.mono ?_
  rintro e w1 ⟨rfl, hb1⟩
  have hst := storeH (shaN ys) w1
  have K1 := (Below.refl w1.heap.size w1).alloc (Nat.le_refl _) (.cells (hcs (shaN ys)) 104)
  have B1 := Blk.new w1 (hcs (shaN ys)) 104
  have KK := hb1.trans (K1.mono hb1.size)
  have hl := hbytes_length (shaN ys)
  have BY := hbytes_in B1
  have PT := psha (hbytes (shaN ys)) (some ⟨w1.heap.size, 0, none⟩) 32 _ (HG0.out.below KK) BY (hbytes_range _) (by omega) (by omega)
  rw [hl] at PT
  have PT := Lib.hid PT
  have KK := Lib.hid KK
  clear K1 B1 hb1 BY hl
  go_upto_region 2 with fail
  generalize w1.alloc (.cells (hcs (shaN ys)) 104) = w2 at *
  clear hst
  go_wp2_with fail
  refine PT.out.mono ?_
  rintro e w3 ⟨rfl, hb3⟩
  have k3 := KK.out.trans (hb3.mono KK.out.size)
  have br := BR.out.1.beyond k3
  have K3 := Lib.hid k3
  clear k3 hb3
  go_wp2_with (refine wpl_store rfl 104 (.tmp 2) (.tmp 7) rfl rfl rfl br (by rw [hcs_size]; rfl) (by rw [hcs_size]; kernel_rfl) (hcs_one _) ?_)
  have bf := br.setAll (hcs (dblN ys)) (by rw [hcs_size]; rfl)
  have b0 := BR.out.2
  have b1 := b0.trans (K3.out.mono (by rw [← hgw]; exact b0.size))
  have b2 := below_setCells (B := rb) (g := rb) (Nat.le_refl _) (hcs (dblN ys)).toList 0 w3 b1
  exact bodyPost_ret (v := hv (dblN ys)) (results_blk Tryz.results68 _ _ rfl bf Tryz.underlying104 (by rw [hcs_size]; kernel_rfl)) rfl ⟨rfl, by rw [hgw]; exact b2⟩
end Go.Proofs.YtbjbjgfjaopibaaGreatDoor
end

section
/- The journal's frames, its keys and values, plainly. -/
namespace Go.Proofs.YtbjbjgfjaopibaaGreatDoor
open Go Go.RowKit
set_option linter.unusedSimpArgs false
set_option linter.unusedVariables false
set_option maxRecDepth 100000

/-- what stands ahead of a body -/
def headB (b : List Int) : List Int := leB b.length 4 ++ (hbytes (dblN b)).take 8
def frmB (b : List Int) : List Int := headB b ++ b
theorem headB_len (b : List Int) : (headB b).length = 12 := by
  unfold headB
  rw [List.length_append, leB_length, List.length_take, hbytes_length]; rfl
theorem frmB_len (b : List Int) : (frmB b).length = 12 + b.length := by unfold frmB; rw [List.length_append, headB_len]
theorem headB_byt (b : List Int) : Byt (headB b) := (leB_byt _ _).app (Byt.take (hbytes_range _) 8)
/-- the body of the frame at the beginning of bytes -/
def rdFrm (bs : List Int) : Option (List Int) :=
  if bs.length < 12 then none else if 1048576 < leN (bs.take 4) ∨ bs.length - 12 < leN (bs.take 4) then none else
    if headB ((bs.drop 12).take (leN (bs.take 4))) = bs.take 12 then some ((bs.drop 12).take (leN (bs.take 4))) else none
theorem rdFrm_iff {bs : List Int} (hb : Byt bs) (b : List Int) : rdFrm bs = some b ↔ b.length ≤ 1048576 ∧ ∃ r, bs = frmB b ++ r := by
  constructor
  · intro h
    unfold rdFrm at h
    split at h
    · cases h
    rename_i h1
    split at h
    · cases h
    rename_i h2
    split at h
    · rename_i h3
      cases h
      have hl : ((bs.drop 12).take (leN (bs.take 4))).length = leN (bs.take 4) := by rw [List.length_take, List.length_drop]; omega
      refine ⟨by omega, (bs.drop 12).drop (leN (bs.take 4)), ?_⟩
      unfold frmB
      rw [h3, List.append_assoc, List.take_append_drop, List.take_append_drop]
    · cases h
  · rintro ⟨hl, r, rfl⟩
    have e4 : (frmB b ++ r).take 4 = leB b.length 4 := by
      unfold frmB headB
      rw [List.append_assoc, List.append_assoc]
      exact List.take_left' (leB_length _ _)
    have e12 : (frmB b ++ r).take 12 = headB b := by
      unfold frmB
      rw [List.append_assoc]
      exact List.take_left' (headB_len b)
    have d12 : (frmB b ++ r).drop 12 = b ++ r := by
      unfold frmB
      rw [List.append_assoc]
      exact List.drop_left' (headB_len b)
    have eN : leN ((frmB b ++ r).take 4) = b.length := by rw [e4, leN_leB]; exact Nat.mod_eq_of_lt (by omega)
    have eB : ((frmB b ++ r).drop 12).take b.length = b := by rw [d12]; exact List.take_left
    have hlen : (frmB b ++ r).length = 12 + b.length + r.length := by rw [List.length_append, frmB_len]
    unfold rdFrm
    rw [eN, eB, e12, if_neg (by omega), if_neg (by omega), if_pos rfl]
/-- frame by frame: the batches, and how many bytes these are -/
def scan : Nat → List Int → List BatD × Nat
  | 0, _ => ([], 0)
  | f + 1, bs => match rdFrm bs with
    | none => ([], 0)
    | some b => match rdBat b with
      | none => ([], 0)
      | some x => (x :: (scan f (bs.drop (12 + b.length))).1, 12 + b.length + (scan f (bs.drop (12 + b.length))).2)
/-- a batch that can be, of bytes -/
def Fit (x : BatD) : Prop := CanB x ∧ BytV x.puts
def frmX (x : BatD) : List Int := frmB (batB x)
theorem frmX_byt {x : BatD} (h : Fit x) : Byt (frmX x) := (headB_byt _).app (batB_byt h.1 h.2)
theorem frmX_pos (x : BatD) : 12 ≤ (frmX x).length := by unfold frmX; rw [frmB_len]; omega
theorem scan_frame {f : Nat} {x : BatD} {r : List Int} (hx : Fit x) (hr : Byt r) : scan (f + 1) (frmX x ++ r) = (x :: (scan f r).1, (frmX x).length + (scan f r).2) := by
  have h1 := (rdFrm_iff ((frmX_byt hx).app hr) (batB x)).2 ⟨hx.1.len, r, rfl⟩
  have h2 := (rdBat_iff (batB_byt hx.1 hx.2) hx.1.len x).2 ⟨hx.1, hx.2, rfl⟩
  have hd : (frmX x ++ r).drop (12 + (batB x).length) = r := by rw [← frmB_len]; exact List.drop_left
  have e : (frmX x).length = 12 + (batB x).length := frmB_len _
  show (match rdFrm (frmX x ++ r) with | none => _ | some b => _) = _
  rw [h1]
  simp only []
  rw [h2]
  simp only []
  rw [hd, e]
theorem scan_stop {f : Nat} {bs : List Int} (hb : Byt bs) (h : ∀ x r, Fit x → bs ≠ frmX x ++ r) : scan f bs = ([], 0) := by
  match f with
  | 0 => rfl
  | f + 1 =>
    show (match rdFrm bs with | none => _ | some b => _) = _
    cases h1 : rdFrm bs with
    | none => rfl
    | some b =>
      obtain ⟨hl, r, e⟩ := (rdFrm_iff hb b).1 h1
      simp only []
      cases h2 : rdBat b with
      | none => rfl
      | some x =>
        have hbb : Byt b := by rw [e] at hb; exact (hb.left).right
        obtain ⟨k1, k2, k3⟩ := (rdBat_iff hbb hl x).1 h2
        exact absurd (by unfold frmX; rw [k3]; exact e) (h x r ⟨k1, k2⟩)
/-- either no frame stands at the beginning, or one does -/
theorem scan_cases {bs : List Int} (hb : Byt bs) : (∀ x r, Fit x → bs ≠ frmX x ++ r) ∨ ∃ x r, Fit x ∧ bs = frmX x ++ r := by
  by_cases h : ∃ x r, Fit x ∧ bs = frmX x ++ r
  · exact .inr h
  · exact .inl fun x r hx e => h ⟨x, r, hx, e⟩
theorem frm_none {bs : List Int} (hb : Byt bs) (h : rdFrm bs = none) : ∀ x r, Fit x → bs ≠ frmX x ++ r := fun x r hx e => by
  have := (rdFrm_iff hb (batB x)).2 ⟨hx.1.len, r, e⟩
  rw [h] at this; cases this
theorem bat_none {bs b : List Int} (hb : Byt bs) (h : rdFrm bs = some b) (h2 : rdBat b = none) : ∀ x r, Fit x → bs ≠ frmX x ++ r := fun x r hx e => by
  have := (rdFrm_iff hb (batB x)).2 ⟨hx.1.len, r, e⟩
  rw [h] at this
  obtain rfl := Option.some.inj this
  have := (rdBat_iff (batB_byt hx.1 hx.2) hx.1.len x).2 ⟨hx.1, hx.2, rfl⟩
  rw [h2] at this; cases this
theorem frm_some {bs b : List Int} {x : BatD} (hb : Byt bs) (h : rdFrm bs = some b) (h2 : rdBat b = some x) : Fit x ∧ b = batB x ∧ bs = frmX x ++ bs.drop (12 + b.length) := by
  obtain ⟨hl, r, e⟩ := (rdFrm_iff hb b).1 h
  have hbb : Byt b := by rw [e] at hb; exact (hb.left).right
  obtain ⟨k1, k2, k3⟩ := (rdBat_iff hbb hl x).1 h2
  refine ⟨⟨k1, k2⟩, k3.symm, ?_⟩
  have hd : bs.drop (12 + b.length) = r := by rw [e, ← frmB_len]; exact List.drop_left
  rw [hd]; unfold frmX; rw [k3]; exact e
/-- the batches of a tape's bytes -/
def opens (bs : List Int) : List BatD × Nat := scan (bs.length + 1) bs
/-- bytes are frames, and what is none -/
theorem opens_of {xs : List BatD} {r : List Int} (hx : ∀ x ∈ xs, Fit x) (hr : Byt r) (h : ∀ x s, Fit x → r ≠ frmX x ++ s) : ∀ f, xs.length < f → scan f (xs.flatMap frmX ++ r) = (xs, (xs.flatMap frmX).length) := by
  induction xs with
  | nil => intro f _; exact scan_stop hr h
  | cons x t ih =>
    intro f hf
    match f, hf with
    | f + 1, hf =>
      have ht : ∀ y ∈ t, Fit y := fun y hy => hx y (List.mem_cons_of_mem _ hy)
      have hbt : Byt (t.flatMap frmX ++ r) := (flat_byt fun y hy => frmX_byt (ht y hy)).app hr
      rw [List.flatMap_cons, List.append_assoc, scan_frame (hx x (by simp)) hbt, ih ht f (by simpa using hf), List.length_append]
theorem flat_frm_len (xs : List BatD) : xs.length ≤ (xs.flatMap frmX).length := by
  induction xs with
  | nil => simp
  | cons x t ih => rw [List.flatMap_cons, List.length_append, List.length_cons]; have := frmX_pos x; omega
theorem opens_eq {xs : List BatD} {r : List Int} (hx : ∀ x ∈ xs, Fit x) (hr : Byt r) (h : ∀ x s, Fit x → r ≠ frmX x ++ s) : opens (xs.flatMap frmX ++ r) = (xs, (xs.flatMap frmX).length) :=
  opens_of hx hr h _ (by have := flat_frm_len xs; rw [List.length_append]; omega)
theorem nil_none : ∀ x s, Fit x → ([] : List Int) ≠ frmX x ++ s := fun x s _ e => by
  have := congrArg List.length e
  have h := frmX_pos x
  rw [List.length_append] at this; simp at this; omega
/-- all bytes are so -/
theorem opens_split {bs : List Int} (hb : Byt bs) : ∃ (xs : List BatD) (r : List Int), (∀ x ∈ xs, Fit x) ∧ Byt r ∧ (∀ x s, Fit x → r ≠ frmX x ++ s) ∧ bs = xs.flatMap frmX ++ r := by
  induction hn : bs.length using Nat.strongRecOn generalizing bs with
  | _ n ih =>
    rcases scan_cases hb with h | ⟨x, r, hx, rfl⟩
    · exact ⟨[], bs, fun x hx => (by cases hx), hb, h, rfl⟩
    · have hp := frmX_pos x
      obtain ⟨xs, s, h1, h2, h3, h4⟩ := ih r.length (by rw [List.length_append] at hn; omega) hb.right rfl
      exact ⟨x :: xs, s, fun y hy => by
        rcases List.mem_cons.1 hy with rfl | hy
        · exact hx
        · exact h1 y hy, h2, h3, by rw [List.flatMap_cons, List.append_assoc, ← h4]⟩

/-- a part of a frame is none -/
theorem part_none {x : BatD} (hx : Fit x) {p q : List Int} (h : frmX x = p ++ q) (hq : q ≠ []) : ∀ y s, Fit y → p ≠ frmX y ++ s := fun y s hy e => by
  have h1 := (rdFrm_iff (frmX_byt hx) (batB x)).2 ⟨hx.1.len, [], by rw [List.append_nil]; rfl⟩
  have h2 := (rdFrm_iff (frmX_byt hx) (batB y)).2 ⟨hy.1.len, s ++ q, by rw [h, e, List.append_assoc]; rfl⟩
  rw [h1] at h2
  have e2 : frmX x = frmX y := congrArg frmB (Option.some.inj h2)
  have hl := congrArg List.length h
  rw [e, List.length_append, List.length_append, e2] at hl
  exact hq (List.eq_nil_of_length_eq_zero (by omega))

/-! keys and values, in order -/
abbrev KV := List (Key × List Int)
def insK : KV → Key → List Int → KV
  | [], k, v => [(k, v)]
  | p :: t, k, v => if k < p.1 then (k, v) :: p :: t else p :: insK t k v
def delK (l : KV) (k : Key) : KV := l.filter fun p => p.1 != k
def putK (l : KV) (k : Key) (v : List Int) : KV := insK (delK l k) k v
def doK (l : KV) (x : BatD) : KV := x.dels.foldl delK (x.puts.foldl (fun l p => putK l p.1 p.2) l)
def doAll (l : KV) (xs : List BatD) : KV := xs.foldl doK l
def getK (l : KV) (k : Key) : Option (List Int) := (l.find? fun p => p.1 == k).map (·.2)
def Srt (l : KV) : Prop := l.Pairwise fun a b => a.1 < b.1
theorem klt_trans {a b c : Key} (h : a < b) (k : b < c) : a < c := List.lt_trans h k
theorem klt_irrefl (a : Key) : ¬ a < a := List.lt_irrefl a
theorem klt_tri {a b : Key} (h : ¬ a < b) (hne : a ≠ b) : b < a := by
  rcases List.le_total a b with h1 | h1
  · exact absurd (List.le_antisymm h1 (List.not_lt.1 h)) hne
  · exact Decidable.byContradiction fun h2 => hne (List.le_antisymm (List.not_lt.1 h2) (List.not_lt.1 h))
theorem Srt.del {l : KV} (h : Srt l) (k : Key) : Srt (delK l k) := List.Pairwise.filter _ h
theorem delK_mem {l : KV} {k : Key} {p : Key × List Int} : p ∈ delK l k ↔ p ∈ l ∧ p.1 ≠ k := by unfold delK; rw [List.mem_filter]; simp
theorem insK_mem {k : Key} {v : List Int} {p : Key × List Int} : ∀ {l : KV}, p ∈ insK l k v ↔ p = (k, v) ∨ p ∈ l
  | [] => by simp [insK]
  | q :: t => by
    unfold insK
    split
    · simp
    · rw [List.mem_cons, insK_mem (l := t), List.mem_cons]
      constructor
      · rintro (h | h | h)
        · exact .inr (.inl h)
        · exact .inl h
        · exact .inr (.inr h)
      · rintro (h | h | h)
        · exact .inr (.inl h)
        · exact .inl h
        · exact .inr (.inr h)
theorem Srt.ins {k : Key} {v : List Int} : ∀ {l : KV}, Srt l → (∀ p ∈ l, p.1 ≠ k) → Srt (insK l k v)
  | [], _, _ => List.pairwise_singleton _ _
  | q :: t, h, hne => by
    have h1 := List.pairwise_cons.1 h
    unfold insK
    split
    · rename_i hlt
      refine List.pairwise_cons.2 ⟨fun p hp => ?_, h⟩
      rcases List.mem_cons.1 hp with rfl | hp
      · exact hlt
      · exact klt_trans hlt (h1.1 p hp)
    · rename_i hlt
      refine List.pairwise_cons.2 ⟨fun p hp => ?_, Srt.ins h1.2 fun p hp => hne p (List.mem_cons_of_mem _ hp)⟩
      rcases insK_mem.1 hp with rfl | hp
      · exact klt_tri hlt (Ne.symm (hne q (by simp)))
      · exact h1.1 p hp
theorem Srt.put {l : KV} (h : Srt l) (k : Key) (v : List Int) : Srt (putK l k v) := (h.del k).ins fun p hp => (delK_mem.1 hp).2
theorem Srt.do {l : KV} (h : Srt l) (x : BatD) : Srt (doK l x) := by
  have h1 : ∀ (ps : List (Key × List Int)) (l : KV), Srt l → Srt (ps.foldl (fun l p => putK l p.1 p.2) l) := fun ps => by
    induction ps with
    | nil => exact fun l h => h
    | cons p t ih => exact fun l h => ih _ (h.put p.1 p.2)
  have h2 : ∀ (ks : List Key) (l : KV), Srt l → Srt (ks.foldl delK l) := fun ks => by
    induction ks with
    | nil => exact fun l h => h
    | cons k t ih => exact fun l h => ih _ (h.del k)
  exact h2 _ _ (h1 _ _ h)
theorem Srt.doAll {l : KV} (h : Srt l) (xs : List BatD) : Srt (doAll l xs) := by
  induction xs generalizing l with
  | nil => exact h
  | cons x t ih => exact ih (h.do x)
theorem Srt.nil : Srt [] := List.Pairwise.nil
theorem getK_nil (k : Key) : getK [] k = none := rfl
theorem getK_cons (p : Key × List Int) (l : KV) (k : Key) : getK (p :: l) k = if p.1 = k then some p.2 else getK l k := by
  unfold getK
  rw [List.find?_cons]
  by_cases h : p.1 = k
  · rw [if_pos h, show (p.1 == k) = true from by simp [h]]; rfl
  · rw [if_neg h, show (p.1 == k) = false from by simp [h]]
theorem getK_del (l : KV) (k j : Key) : getK (delK l k) j = if j = k then none else getK l j := by
  induction l with
  | nil => simp [delK, getK_nil]
  | cons p t ih =>
    unfold delK at ih ⊢
    rw [List.filter_cons]
    by_cases h : p.1 = k
    · rw [if_neg (by simp [h]), ih, getK_cons]
      by_cases hj : j = k
      · rw [if_pos hj, if_pos hj]
      · rw [if_neg hj, if_neg hj, if_neg (by rw [h]; exact Ne.symm hj)]
    · rw [if_pos (by simp [h]), getK_cons, getK_cons, ih]
      by_cases hj : p.1 = j
      · rw [if_pos hj, if_pos hj, if_neg (by rw [← hj]; exact h)]
      · rw [if_neg hj, if_neg hj]
theorem getK_ins {k : Key} {v : List Int} (j : Key) : ∀ {l : KV}, (∀ p ∈ l, p.1 ≠ k) → getK (insK l k v) j = if j = k then some v else getK l j
  | [], _ => by
    show getK [(k, v)] j = _
    rw [getK_cons]
    by_cases h : j = k
    · rw [if_pos h, if_pos h.symm]
    · rw [if_neg h, if_neg (Ne.symm h)]
  | q :: t, hne => by
    have hq := hne q (by simp)
    unfold insK
    split
    · rw [getK_cons]
      by_cases h : j = k
      · rw [if_pos h, if_pos h.symm]
      · rw [if_neg h, if_neg (Ne.symm h)]
    · rw [getK_cons, getK_cons, getK_ins j fun p hp => hne p (List.mem_cons_of_mem _ hp)]
      by_cases h : q.1 = j
      · rw [if_pos h, if_pos h, if_neg (by rw [← h]; exact hq)]
      · rw [if_neg h, if_neg h]
theorem getK_put (l : KV) (k : Key) (v : List Int) (j : Key) : getK (putK l k v) j = if j = k then some v else getK l j := by
  unfold putK
  rw [getK_ins j fun p hp => (delK_mem.1 hp).2, getK_del]
  by_cases h : j = k
  · rw [if_pos h, if_pos h]
  · rw [if_neg h, if_neg h, if_neg h]
theorem getK_mem {l : KV} {k : Key} {v : List Int} (h : getK l k = some v) : (k, v) ∈ l := by
  induction l with
  | nil => cases h
  | cons p t ih =>
    rw [getK_cons] at h
    split at h
    · rename_i e; cases h; subst e; exact List.mem_cons_self
    · exact List.mem_cons_of_mem _ (ih h)
theorem getK_of_mem {l : KV} (hs : Srt l) {k : Key} {v : List Int} (h : (k, v) ∈ l) : getK l k = some v := by
  induction l with
  | nil => cases h
  | cons p t ih =>
    have h1 := List.pairwise_cons.1 hs
    rw [getK_cons]
    rcases List.mem_cons.1 h with rfl | h
    · rw [if_pos rfl]
    · rw [if_neg (fun e => klt_irrefl k (by have := h1.1 _ h; rwa [e] at this)), ih h1.2 h]
theorem getK_isSome {l : KV} {k : Key} : (getK l k).isSome = true ↔ k ∈ l.map (·.1) := by
  induction l with
  | nil => simp [getK_nil]
  | cons p t ih =>
    rw [getK_cons, List.map_cons, List.mem_cons, ← ih]
    by_cases h : p.1 = k
    · rw [if_pos h]; simp [h]
    · rw [if_neg h]
      constructor
      · exact .inr
      · rintro (h1 | h1)
        · exact absurd h1.symm h
        · exact h1
end Go.Proofs.YtbjbjgfjaopibaaGreatDoor
end

section
/- Data that came in, of any plain type: what its cells hold. The bulk bounds every length. -/
namespace Go.Proofs.YtbjbjgfjaopibaaGreatDoor
open Go Go.ChangeShapes Go.WideShapes Go.ChangeAt Go.RowKit
set_option linter.unusedVariables false

/-- are all types that t reaches plain ones? -/
def plainTy (P : Program) : Nat → TypeId → Bool
  | 0, _ => false
  | f + 1, t => match P.underlying t with
    | some (.int _) => true
    | some .bool => true
    | some .string => true
    | some (.slice e) => decide (0 < P.cellsOf e) && plainTy P f e
    | some (.struct fs) => fs.toList.all fun x => plainTy P f x.type
    | some (.array _ e) => plainTy P f e
    | _ => false
/-- cells from an address on -/
def CellsAt (w : World) (b o : Nat) (cs : List Value) : Prop := ∀ j, j < cs.length → w.cell? ⟨b, o + j, none⟩ = cs[j]?
/-- these cells are a value of type t, and what it leads to is there; no length beyond M -/
def Ok (P : Program) (w : World) (M : Nat) : Nat → TypeId → List Value → Prop
  | 0, _, _ => False
  | f + 1, t, cs => match P.underlying t with
    | some (.int k) => ∃ z, cs = [.int k z] ∧ (Lit.int k z).wf = true
    | some .bool => ∃ b, cs = [.bool b]
    | some .string => ∃ s : ByteArray, cs = [.string s] ∧ s.size ≤ M
    | some (.slice e) => ∃ a len cap, cs = [.slice a len cap] ∧ len ≤ cap ∧ cap ≤ M ∧ (a = none → cap = 0) ∧ ∀ i, i < len → ∃ b o cs', a = some ⟨b, o, none⟩ ∧ cs'.length = P.cellsOf e ∧ CellsAt w b (o + i * P.cellsOf e) cs' ∧ Ok P w M f e cs'
    | some (.struct fs) => cs.length = P.cellsOf t ∧ ∀ (i : Nat) x, fs[i]? = some x → Ok P w M f x.type ((cs.drop x.offset).take (P.cellsOf x.type))
    | some (.array n e) => cs.length = P.cellsOf t ∧ ∀ i, i < n → Ok P w M f e ((cs.drop (i * P.cellsOf e)).take (P.cellsOf e))
    | _ => False
section
variable {P : Program} {w : World} {M f : Nat} {t : TypeId} {cs : List Value}
theorem Ok.int {k : IntKind} (ht : P.underlying t = some (.int k)) (h : Ok P w M (f + 1) t cs) : ∃ z, cs = [.int k z] ∧ (Lit.int k z).wf = true := by
  unfold Ok at h; rw [ht] at h; exact h
theorem Ok.bool (ht : P.underlying t = some .bool) (h : Ok P w M (f + 1) t cs) : ∃ b, cs = [.bool b] := by
  unfold Ok at h; rw [ht] at h; exact h
theorem Ok.string (ht : P.underlying t = some .string) (h : Ok P w M (f + 1) t cs) : ∃ s : ByteArray, cs = [.string s] ∧ s.size ≤ M := by
  unfold Ok at h; rw [ht] at h; exact h
theorem Ok.slice {e : TypeId} (ht : P.underlying t = some (.slice e)) (h : Ok P w M (f + 1) t cs) : ∃ a len cap, cs = [.slice a len cap] ∧ len ≤ cap ∧ cap ≤ M ∧ (a = none → cap = 0) ∧ ∀ i, i < len → ∃ b o cs', a = some ⟨b, o, none⟩ ∧ cs'.length = P.cellsOf e ∧ CellsAt w b (o + i * P.cellsOf e) cs' ∧ Ok P w M f e cs' := by
  unfold Ok at h; rw [ht] at h; exact h
theorem Ok.struct {fs : Array Field} (ht : P.underlying t = some (.struct fs)) (h : Ok P w M (f + 1) t cs) : cs.length = P.cellsOf t ∧ ∀ (i : Nat) x, fs[i]? = some x → Ok P w M f x.type ((cs.drop x.offset).take (P.cellsOf x.type)) := by
  unfold Ok at h; rw [ht] at h; exact h
theorem Ok.array {n : Nat} {e : TypeId} (ht : P.underlying t = some (.array n e)) (h : Ok P w M (f + 1) t cs) : cs.length = P.cellsOf t ∧ ∀ i, i < n → Ok P w M f e ((cs.drop (i * P.cellsOf e)).take (P.cellsOf e)) := by
  unfold Ok at h; rw [ht] at h; exact h
theorem CellsAt.below {w w' : World} {b o : Nat} {cs : List Value} (h : CellsAt w b o cs) (hb : Below w.heap.size w w') : CellsAt w' b o cs := fun j hj => by
  have h1 := h j hj
  rw [List.getElem?_eq_getElem hj] at h1 ⊢
  exact (hb.cell (p := ⟨b, o + j, none⟩) (cell_lt h1)).trans h1
theorem Ok.below {w' : World} (hb : Below w.heap.size w w') : ∀ {f : Nat} {t : TypeId} {cs : List Value}, Ok P w M f t cs → Ok P w' M f t cs
  | 0, _, _, h => h
  | f + 1, t, cs, h => by
    unfold Ok at h ⊢
    split at h
    · exact h
    · exact h
    · exact h
    · obtain ⟨a, len, cap, h1, h2, h3, h4, h5⟩ := h
      exact ⟨a, len, cap, h1, h2, h3, h4, fun i hi => by
        obtain ⟨b, o, cs', e1, e2, e3, e4⟩ := h5 i hi
        exact ⟨b, o, cs', e1, e2, e3.below hb, Ok.below hb e4⟩⟩
    · exact ⟨h.1, fun i x hx => Ok.below hb (h.2 i x hx)⟩
    · exact ⟨h.1, fun i hi => Ok.below hb (h.2 i hi)⟩
    · exact h
end
theorem bulk_part {H : Type} {d : DataW H} {l : List (DataW H)} (h : d ∈ l) : Rows.uptoBulk d ≤ Rows.uptoBulkAll l := by
  induction l with
  | nil => cases h
  | cons x r ih =>
    simp only [Rows.uptoBulkAll]
    cases List.mem_cons.1 h with
    | inl e => subst e; omega
    | inr e => have := ih e; omega
theorem bulk_one {H : Type} (d : DataW H) : 1 ≤ Rows.uptoBulk d := by
  cases d with
  | lit l => cases l <;> simp [Rows.uptoBulk]
  | nil => simp [Rows.uptoBulk]
  | ptr d => simp [Rows.uptoBulk]
  | slice elems spare => simp [Rows.uptoBulk]
  | agg parts => simp [Rows.uptoBulk]
  | iface t d => simp [Rows.uptoBulk]
  | map entries => simp [Rows.uptoBulk]
  | held h => simp [Rows.uptoBulk]
theorem bulk_length {H : Type} (l : List (DataW H)) : l.length ≤ Rows.uptoBulkAll l := by
  induction l with
  | nil => simp [Rows.uptoBulkAll]
  | cons x r ih => have := bulk_one x; simp only [Rows.uptoBulkAll, List.length_cons]; omega
/-- WHAT CAME IN, of a plain type -/
theorem ok_of_trod {H : Type} {enc : TypeId × Value → H} {P : Program} {w : World} {M : Nat} : ∀ {f n : Nat} {t : TypeId} {cs : List Value} {x : DataW H × List MemPlace},
    plainTy P f t = true → DataW.trod enc P w 0 (fun _ => true) true n t cs = some x → Rows.uptoBulk x.1 ≤ M → Ok P w M f t cs
  | 0, _, _, _, _, h, _, _ => by simp [plainTy] at h
  | f + 1, n, t, cs, x, hp, h, hM => by
    unfold plainTy at hp
    unfold Ok
    split at hp <;> rename_i hu
    · obtain ⟨z, h1, _, h2⟩ := DataW.trod_int hu h
      exact ⟨z, h1, h2⟩
    · obtain ⟨b, h1, _⟩ := DataW.trod_bool hu h
      exact ⟨b, h1⟩
    · obtain ⟨s, h1, rfl, _⟩ := DataW.trod_string hu h
      refine ⟨s, h1, ?_⟩
      have e : s.data.toList.length = s.size := by rw [Array.length_toList]; rfl
      simp only [Rows.uptoBulk] at hM
      omega
    · rw [Bool.and_eq_true] at hp
      obtain ⟨hp0, hp⟩ := hp
      have hp0 := of_decide_eq_true hp0
      rcases Go.Deep.open_slice hu h with ⟨rfl, _⟩ | ⟨a, len, cap, m, n', D, Pl, rfl, _, hl, hm, hmm, rfl, hi⟩
      · exact ⟨none, 0, 0, rfl, Nat.le_refl _, Nat.zero_le _, fun _ => rfl, fun i hi => by omega⟩
      · simp only [if_true] at hmm
        subst hmm
        have h1 := bulk_length ((List.range len).map D)
        have h2 := bulk_length ((List.range (m - len)).map fun j => D (len + j))
        simp only [Rows.uptoBulk] at hM
        simp only [List.length_map, List.length_range] at h1 h2
        refine ⟨some a, len, m, rfl, hl, by omega, fun h => (by cases h), fun i hlt => ?_⟩
        obtain ⟨cs', hc, ht'⟩ := hi i (by omega)
        obtain ⟨_, hcl, hat⟩ := World.cells?_some hc
        have hD : Rows.uptoBulk (D i) ≤ M := by
          have := bulk_part (List.mem_map.2 ⟨i, List.mem_range.2 hlt, rfl⟩ : D i ∈ (List.range len).map D)
          omega
        have hOk := ok_of_trod hp ht' hD
        obtain ⟨b, o, s⟩ := a
        obtain ⟨cs0, hc0, _⟩ := hi 0 (by omega)
        obtain ⟨_, hcl0, hat0⟩ := World.cells?_some hc0
        have hat0 := hat0 0 hp0
        rw [List.getElem?_eq_getElem (by omega)] at hat0
        obtain rfl : s = none := by simpa [Addr.add] using World.cell?_spot hat0
        refine ⟨b, o, cs', rfl, hcl, fun j hj => ?_, hOk⟩
        have := hat j (by omega)
        rw [Go.Deep.add_add, Addr.add_lit, ← Nat.add_assoc] at this
        exact this
    · obtain ⟨xs, n', _, rfl, hl, hlen, hf⟩ := DataW.trod_struct hu h
      refine ⟨hl, fun i fd hfd => ?_⟩
      have hi := (Array.getElem?_eq_some_iff.1 hfd).1
      have h1 := hf i fd hfd
      rw [List.getElem?_eq_getElem (by omega)] at h1
      refine ok_of_trod (List.all_eq_true.1 hp fd (by
        rw [Array.mem_toList_iff]; exact Array.mem_of_getElem? hfd)) h1 ?_
      have := bulk_part (List.mem_map.2 ⟨xs[i]'(by omega), List.getElem_mem (by omega), rfl⟩ : (xs[i]'(by omega)).1 ∈ xs.map (·.1))
      simp only [Rows.uptoBulk] at hM
      omega
    · obtain ⟨xs, n', _, rfl, hl, hlen, hf⟩ := DataW.trod_array hu h
      refine ⟨hl, fun i hi => ?_⟩
      have h1 := hf i hi
      rw [List.getElem?_eq_getElem (by omega)] at h1
      refine ok_of_trod hp h1 ?_
      have := bulk_part (List.mem_map.2 ⟨xs[i]'(by omega), List.getElem_mem (by omega), rfl⟩ : (xs[i]'(by omega)).1 ∈ xs.map (·.1))
      simp only [Rows.uptoBulk] at hM
      omega
    · simp at hp
end Go.Proofs.YtbjbjgfjaopibaaGreatDoor
end

section
/- An argument of bytes, its length bounded by what it weighs. -/
namespace Go.Proofs.YtbjbjgfjaopibaaGreatDoor
open Go Go.ChangeShapes Go.WideShapes Go.ChangeAt Go.RowKit
set_option linter.unusedVariables false

set_option maxRecDepth 100000
theorem bytesU : Tryz.prog.bytesOf 5 = 1 := by kernel_rfl
theorem open_bytesS {H : Type} {enc : TypeId × Value → H} {w : World} {b0 : Nat} {r : Reach} {v : Value} {d : DataW H} {p : List MemPlace} {ts : List TypeId} {ds : List (DataW H)} {jj : Nat}
    (hv : Value.okWide Tryz.prog w r b0 22 v) (h : DataW.Trod enc Tryz.prog w 0 (fun _ => true) true 22 v d p)
    (hsz : (DataW.weightsEach Tryz.prog ts ds).all (· ≤ reachBytes) = true) (ht : ts[jj]? = some 22) (hd : ds[jj]? = some d) :
    ∃ a0 cap xs, v = .slice a0 (List.length xs) cap ∧ xs.length ≤ 140737488351232 ∧ Lib.BytesIn w a0 xs.length xs ∧ xs.length ≤ cap ∧ (∀ x ∈ xs, 0 ≤ x ∧ x ≤ 255) ∧ (∀ q, a0 = some q → 0 < xs.length → q.block < w.heap.size) ∧ (a0 = none → cap = 0) ∧ cap ≤ 140737488351232 := by
  obtain ⟨a0, len, cap, rfl⟩ := okWide_slice Tryz.underlying22 hv
  obtain ⟨fuel, hf⟩ := h
  rcases open_ints Tryz.underlying22 Tryz.underlying5 (by kernel_rfl) hf with ⟨hcs, _⟩ | ⟨a, len', cap', zs, hcs, hlc, hl, hm, hz, hy, hcell, hwz⟩
  · simp [Value.cells] at hcs
    obtain ⟨rfl, rfl, rfl⟩ := hcs
    exact ⟨none, 0, [], rfl, by decide, Lib.BytesIn.nil _ _ _, by decide, fun x hx => (by simp at hx), fun q hq => (by cases hq), fun _ => rfl, by decide⟩
  · simp [Value.cells] at hcs
    obtain ⟨rfl, rfl, rfl⟩ := hcs
    simp only [if_true] at hz
    have hln : (zs.take len).length = len := by simp; omega
    have hcap : cap ≤ 140737488351232 := by
      simp only [Prod.mk.injEq] at hy
      have hw := of_decide_eq_true (List.all_eq_true.1 hsz _ (DataW.weights_mem_each ht hd cap (by
        rw [hy.1]
        simp [DataW.weights, Tryz.underlying22, lits, bytesU, hz]
        omega)))
      simpa [reachBytes] using hw
    have hcells : ∀ i, i < len → w.cell? (a.add i) = some (.int .u8 ((zs.take len).getD i 0)) := fun i hi => by
      rw [hcell i (by omega)]
      congr 2
      simp [List.getD, hi]
    refine ⟨some a, cap, zs.take len, by rw [hln], by rw [hln]; omega, ?_, by rw [hln]; omega, fun x hx => ?_, fun q hq h0 => ?_, fun hq => (by cases hq), hcap⟩
    · refine Lib.BytesIn.of_cells fun i hi => ?_
      rw [hln] at hi
      exact hcells i hi
    · exact bounds_u8 (hwz x (List.mem_of_mem_take hx))
    · cases hq
      rw [hln] at h0
      have := cell_lt (hcells 0 h0)
      have hb : (a.add 0).block = a.block := by unfold Addr.add; split <;> rfl
      rw [hb] at this; exact this
end Go.Proofs.YtbjbjgfjaopibaaGreatDoor
end

section
/- An argument of slices of bytes, their lengths bounded by what they weigh. -/
namespace Go.Proofs.YtbjbjgfjaopibaaGreatDoor
open Go Go.ChangeShapes Go.WideShapes Go.ChangeAt Go.RowKit
set_option linter.unusedVariables false

/-- a slice of slices of bytes that came in -/
structure RowOf (w : World) (v : Value) (A : Option Addr) (C : Nat) (Z : List Int) : Prop where
  form : v = .slice A Z.length C
  bytes : Lib.BytesIn w A Z.length Z
  len : Z.length ≤ 140737488351232
  cap : Z.length ≤ C
  most : C ≤ 9223372036854775807
  none : A = none → C = 0
  range : ∀ y ∈ Z, 0 ≤ y ∧ y ≤ 255
  there : ∀ q, A = some q → 0 < Z.length → q.block < w.heap.size
def RowsIn (w : World) (a0 : Option Addr) (len : Nat) (A : Nat → Option Addr) (C : Nat → Nat) (Z : Nat → List Int) : Prop :=
  ∀ r, r < len → ∃ b o, a0 = some ⟨b, o, none⟩ ∧ w.cell? ⟨b, o + r, none⟩ = some (.slice (A r) (Z r).length (C r)) ∧ RowOf w (.slice (A r) (Z r).length (C r)) (A r) (C r) (Z r)
theorem RowOf.below {w w' : World} {v : Value} {A : Option Addr} {C : Nat} {Z : List Int} (h : RowOf w v A C Z) (hb : Below w.heap.size w w') : RowOf w' v A C Z :=
  ⟨h.form, bytes_keep h.bytes (Keep.of_below (X := fun _ => False) hb) (fun _ _ _ h => h), h.len, h.cap, h.most, h.none, h.range, fun q hq h0 => Nat.lt_of_lt_of_le (h.there q hq h0) hb.size⟩
theorem RowsIn.below {w w' : World} {a0 : Option Addr} {len : Nat} {A : Nat → Option Addr} {C : Nat → Nat} {Z : Nat → List Int} (h : RowsIn w a0 len A C Z) (hb : Below w.heap.size w w') : RowsIn w' a0 len A C Z := fun r hr => by
  obtain ⟨b, o, h1, h2, h3⟩ := h r hr
  exact ⟨b, o, h1, (hb.cell (p := ⟨b, o + r, none⟩) (cell_lt h2)).trans h2, h3.below hb⟩
theorem RowsIn.row {w : World} {a0 : Option Addr} {len : Nat} {A : Nat → Option Addr} {C : Nat → Nat} {Z : Nat → List Int} (h : RowsIn w a0 len A C Z) {r : Nat} (hr : r < len) : RowOf w (.slice (A r) (Z r).length (C r)) (A r) (C r) (Z r) := by
  obtain ⟨_, _, _, _, h3⟩ := h r hr
  exact h3
theorem RowsIn.less {w : World} {a0 : Option Addr} {len len' : Nat} {A : Nat → Option Addr} {C : Nat → Nat} {Z : Nat → List Int} (h : RowsIn w a0 len A C Z) (hl : len' ≤ len) : RowsIn w a0 len' A C Z := fun r hr => h r (Nat.lt_of_lt_of_le hr hl)
set_option maxRecDepth 100000
theorem weightsAll_mem {H : Type} {P : Program} {e : TypeId} : ∀ {l : List (DataW H)} {d : DataW H}, d ∈ l → ∀ n ∈ d.weights P e, n ∈ DataW.weightsAll P e l
  | d' :: r, d, hd, n, hn => by
    simp only [DataW.weightsAll, List.mem_append]
    rcases List.mem_cons.1 hd with rfl | h
    · exact Or.inl hn
    · exact Or.inr (weightsAll_mem h n hn)
theorem bytes_weight {H : Type} {e sp : List (DataW H)} : (e.length + sp.length) * 1 ∈ (DataW.slice e sp).weights Tryz.prog 22 := by
  rw [← bytesU]
  simp [DataW.weights, Tryz.underlying22]
/-- bytes among other data -/
theorem open_row {H : Type} {enc : TypeId × Value → H} {w : World} {c : Value} {d : DataW H} {p : List MemPlace} {n : Nat}
    (h : DataW.trod enc Tryz.prog w 0 (fun _ => true) true n 22 [c] = some (d, p)) (hw : ∀ m ∈ d.weights Tryz.prog 22, m ≤ reachBytes) :
    ∃ A C Z, RowOf w c A C Z := by
  rcases open_ints Tryz.underlying22 Tryz.underlying5 (by kernel_rfl) h with ⟨hcs, _⟩ | ⟨a', len', cap', zs, hcs, hlc, hl', hm', hz, hy', hcell, hwz⟩
  · simp at hcs
    subst hcs
    exact ⟨none, 0, [], rfl, Lib.BytesIn.nil _ _ _, by decide, by decide, by decide, fun _ => rfl, fun y hy => (by simp at hy), fun q hq => (by cases hq)⟩
  · simp at hcs
    subst hcs
    simp only [if_true] at hz
    have hln : (zs.take len').length = len' := by simp; omega
    have hcells : ∀ i, i < len' → w.cell? (a'.add i) = some (.int .u8 ((zs.take len').getD i 0)) := fun i hi => by
      rw [hcell i (by omega)]
      congr 2
      simp [List.getD, hi]
    have hcap : cap' ≤ 140737488351232 := by
      simp only [Prod.mk.injEq] at hy'
      have := hw _ (by rw [hy'.1]; exact bytes_weight)
      simp [lits, reachBytes] at this
      omega
    refine ⟨some a', cap', zs.take len', by rw [hln], ?_, by rw [hln]; omega, by rw [hln]; omega, by omega, fun hq => (by cases hq), fun x hx => ?_, fun q hq h0 => ?_⟩
    · refine Lib.BytesIn.of_cells fun i hi => ?_
      rw [hln] at hi
      exact hcells i hi
    · exact bounds_u8 (hwz x (List.mem_of_mem_take hx))
    · cases hq
      rw [hln] at h0
      have := cell_lt (hcells 0 h0)
      have hb : (a'.add 0).block = a'.block := by unfold Addr.add; split <;> rfl
      rw [hb] at this; exact this
theorem open_browsS {H : Type} {enc : TypeId × Value → H} {w : World} {b0 : Nat} {r : Reach} {v : Value} {d : DataW H} {p : List MemPlace} {ts : List TypeId} {ds : List (DataW H)} {jj : Nat}
    (hv : Value.okWide Tryz.prog w r b0 84 v) (h : DataW.Trod enc Tryz.prog w 0 (fun _ => true) true 84 v d p)
    (hsz : (DataW.weightsEach Tryz.prog ts ds).all (· ≤ reachBytes) = true) (ht : ts[jj]? = some 84) (hd : ds[jj]? = some d) :
    ∃ a0 len cap A C Z, v = .slice a0 len cap ∧ len ≤ 9223372036854775807 ∧ len ≤ cap ∧ cap ≤ 9223372036854775807 ∧ RowsIn w a0 len A C Z := by
  obtain ⟨a0, len, cap, rfl⟩ := okWide_slice Tryz.underlying84 hv
  obtain ⟨fuel, hf⟩ := h
  rcases Go.Deep.open_slice Tryz.underlying84 hf with ⟨hcs, _⟩ | ⟨a, len', cap', m, n, D, Pl, hcs, hlc, hl, hm, hmm, hx, hi⟩
  · simp [Value.cells] at hcs
    obtain ⟨rfl, rfl, rfl⟩ := hcs
    exact ⟨_, _, _, fun _ => none, fun _ => 0, fun _ => [], rfl, by decide, by decide, by decide, fun r hr => by omega⟩
  · simp [Value.cells] at hcs
    obtain ⟨rfl, rfl, rfl⟩ := hcs
    simp only [if_true] at hmm
    simp only [Prod.mk.injEq] at hx
    obtain ⟨rfl, _⟩ := hx
    rw [show Tryz.prog.cellsOf 22 = 1 from by kernel_rfl] at hi
    have each : ∀ i, i < len → ∃ y : Option Addr × Nat × List Int, w.cell? (a.add i) = some (.slice y.1 y.2.2.length y.2.1) ∧ RowOf w (.slice y.1 y.2.2.length y.2.1) y.1 y.2.1 y.2.2 := by
      intro i hlt
      obtain ⟨cs', hc, ht'⟩ := hi i (by omega)
      obtain ⟨_, hcl', hat⟩ := World.cells?_some hc
      obtain ⟨c0, rfl⟩ : ∃ c0, cs' = [c0] := by
        match cs', hcl' with
        | [c0], _ => exact ⟨c0, rfl⟩
      have a0 := hat 0 (by omega)
      rw [Go.Deep.add_add] at a0
      simp at a0
      have hmem : D i ∈ (List.range len).map D := List.mem_map.2 ⟨i, List.mem_range.2 hlt, rfl⟩
      obtain ⟨A, C, Z, hR⟩ := open_row ht' (fun k hk => by
        have hw := of_decide_eq_true (List.all_eq_true.1 hsz _ (DataW.weights_mem_each ht hd k (by
          simp only [DataW.weights, Tryz.underlying84, List.mem_cons, List.mem_append]
          exact Or.inr (Or.inl (weightsAll_mem hmem k hk)))))
        exact hw)
      have hf := hR.form
      subst hf
      exact ⟨(A, C, Z), a0, hR⟩
    obtain ⟨y, hy⟩ := Go.Deep.choose_lt each
    obtain ⟨b, o, s⟩ := a
    refine ⟨some ⟨b, o, s⟩, len, cap, fun i => (y i).1, fun i => (y i).2.1, fun i => (y i).2.2, rfl, by unfold maxLen at hm; omega, by omega, by unfold maxLen at hm; omega, fun i hlt => ?_⟩
    obtain ⟨r0, r1⟩ := hy i hlt
    obtain rfl : s = none := by simpa [Addr.add] using World.cell?_spot (hy 0 (by omega)).1
    rw [Addr.add_lit] at r0
    exact ⟨b, o, rfl, r0, r1⟩
/-- block b is there, and may be written -/
def FreeAt (w : World) (b : Nat) : Prop := b < w.heap.size ∧ ∀ j, w.frozen? ⟨b, j, none⟩ = false
theorem FreeAt.keep {X : Nat → Prop} {w w' : World} {b : Nat} (h : FreeAt w b) (hk : Keep X w w') (hn : ¬ X b) : FreeAt w' b := ⟨Nat.lt_of_lt_of_le h.1 hk.size, fun j => (World.frozen?_of_block (w := w) (a := ⟨b, j, none⟩) (hk.block b h.1 hn)).trans (h.2 j)⟩
theorem Row.free {w : World} {e : TypeId} {v : Value} {xs : List Int} {o : Option Nat} (h : Row w e v xs o) : ∀ g, o = some g → FreeAt w g := by
  intro g hg
  rcases h with ⟨_, _, h0⟩ | ⟨g', cap, cur, h0, h1, h2, h3⟩
  · rw [h0] at hg; cases hg
  · rw [h0] at hg; cases hg; exact ⟨h2.lt, h2.free⟩
theorem RowOf.keep {X : Nat → Prop} {w w' : World} {v : Value} {A : Option Addr} {C : Nat} {Z : List Int} (h : RowOf w v A C Z) (hk : Keep X w w') (hn : ∀ q, A = some q → ¬ X q.block) : RowOf w' v A C Z :=
  ⟨h.form, bytes_keep h.bytes hk (fun _ q hq => hn q hq), h.len, h.cap, h.most, h.none, h.range, fun q hq h0 => Nat.lt_of_lt_of_le (h.there q hq h0) hk.size⟩
theorem rowOf_clone {w : World} {p : Option Addr} {c : Nat} {xs : List Int} {o : Option Nat} (h : Row w 5 (.slice p xs.length c) xs o) (hl : xs.length ≤ 140737488351232) (hr : ∀ y ∈ xs, 0 ≤ y ∧ y ≤ 255) : RowOf w (.slice p xs.length c) p c xs ∧ ∀ q, p = some q → o = some q.block := by
  obtain ⟨p', c', e, hy, hle, hcm, hcase⟩ := h.form
  cases e
  refine ⟨⟨rfl, hy, hl, hle, by unfold maxLen at hcm; omega, fun hp => ?_, hr, fun q hq h0 => ?_⟩, fun q hq => ?_⟩
  · rcases hcase with ⟨_, _, h0, _⟩ | ⟨g, _, h0, _⟩
    · exact h0
    · rw [h0] at hp; cases hp
  · rcases hcase with ⟨h0', _⟩ | ⟨g, hg, h0', hlt⟩
    · rw [h0'] at hq; cases hq
    · rw [h0'] at hq; cases hq; exact hlt
  · rcases hcase with ⟨h0', _⟩ | ⟨g, hg, h0', hlt⟩
    · rw [h0'] at hq; cases hq
    · rw [h0'] at hq; cases hq; exact hg
end Go.Proofs.YtbjbjgfjaopibaaGreatDoor
end

section
/- Slices that came in, told plainly: elements of any kind, rows of bytes. -/
namespace Go.Proofs.YtbjbjgfjaopibaaGreatDoor
open Go Go.ChangeShapes Go.WideShapes Go.ChangeAt Go.RowKit
set_option linter.unusedVariables false
set_option maxRecDepth 100000

/-- n elements of k cells each in a slice that came in: what each has -/
def ElemsIn {α : Type} (w : World) (a : Option Addr) (n k : Nat) (cs : α → List Value) (ok : World → α → Prop) (X : Nat → α) : Prop :=
  ∀ i, i < n → ∃ b o, a = some ⟨b, o, none⟩ ∧ (cs (X i)).length = k ∧ CellsAt w b (o + i * k) (cs (X i)) ∧ ok w (X i)
theorem ElemsIn.below {α : Type} {w w' : World} {a : Option Addr} {n k : Nat} {cs : α → List Value} {ok : World → α → Prop} {X : Nat → α} (h : ElemsIn w a n k cs ok X) (hb : Below w.heap.size w w') (hok : ∀ x, ok w x → ok w' x) : ElemsIn w' a n k cs ok X := fun i hi => by
  obtain ⟨b, o, h1, h2, h3, h4⟩ := h i hi
  exact ⟨b, o, h1, h2, h3.below hb, hok _ h4⟩
theorem ElemsIn.row {α : Type} {w : World} {a : Option Addr} {n k : Nat} {cs : α → List Value} {ok : World → α → Prop} {X : Nat → α} (h : ElemsIn w a n k cs ok X) {i : Nat} (hi : i < n) : ok w (X i) := by
  obtain ⟨_, _, _, _, _, h⟩ := h i hi
  exact h
/-- a slice's head and its elements -/
structure SlD (α : Type) where
  a : Option Addr
  n : Nat
  c : Nat
  x : Nat → α
def SlD.cell {α : Type} (s : SlD α) : Value := .slice s.a s.n s.c
def SlOk {α : Type} (M k : Nat) (cs : α → List Value) (ok : World → α → Prop) (w : World) (s : SlD α) : Prop :=
  s.n ≤ s.c ∧ (s.n ≤ M ∧ s.c ≤ 9223372036854775807) ∧ (s.a = none → s.c = 0) ∧ ElemsIn w s.a s.n k cs ok s.x
theorem SlOk.below {α : Type} {M k : Nat} {cs : α → List Value} {ok : World → α → Prop} {w w' : World} {s : SlD α} (h : SlOk M k cs ok w s) (hb : Below w.heap.size w w') (hok : ∀ x, ok w x → ok w' x) : SlOk M k cs ok w' s :=
  ⟨h.1, h.2.1, h.2.2.1, h.2.2.2.below hb hok⟩
/-- a slice, out of what came in -/
theorem Ok.sl {α : Type} {P : Program} {w : World} {M f : Nat} {t e : TypeId} {c : List Value} {k : Nat} {cs : α → List Value} {ok : World → α → Prop} (hM : M ≤ 140737488351232) (ht : P.underlying t = some (.slice e)) (hk : P.cellsOf e = k) (h : Ok P w M (f + 1) t c) (x0 : α)
    (he : ∀ c', Ok P w M f e c' → ∃ x, c' = cs x ∧ ok w x) : ∃ s : SlD α, c = [s.cell] ∧ SlOk M k cs ok w s := by
  obtain ⟨a, len, cap, rfl, h1, h2, h3, h4⟩ := h.slice ht
  have each : ∀ i, i < len → ∃ x : α, ∃ b o, a = some ⟨b, o, none⟩ ∧ (cs x).length = k ∧ CellsAt w b (o + i * k) (cs x) ∧ ok w x := fun i hi => by
    obtain ⟨b, o, cs', e1, e2, e3, e4⟩ := h4 i hi
    obtain ⟨x, rfl, hx⟩ := he cs' e4
    rw [hk] at e2 e3
    exact ⟨x, b, o, e1, e2, e3, hx⟩
  rcases Nat.eq_zero_or_pos len with h0 | h0
  · exact ⟨⟨a, len, cap, fun _ => x0⟩, rfl, h1, ⟨Nat.le_trans h1 h2, Nat.le_trans h2 (by omega)⟩, h3, fun i hi => by have hi' : i < len := hi; omega⟩
  · have : Nonempty α := ⟨x0⟩
    have each' : ∀ i, ∃ x : α, i < len → ∃ b o, a = some ⟨b, o, none⟩ ∧ (cs x).length = k ∧ CellsAt w b (o + i * k) (cs x) ∧ ok w x := fun i => by
      rcases Nat.lt_or_ge i len with hi | hi
      · obtain ⟨x, hx⟩ := each i hi
        exact ⟨x, fun _ => hx⟩
      · exact ⟨x0, fun h => absurd h (by omega)⟩
    exact ⟨⟨a, len, cap, fun i => Classical.choose (each' i)⟩, rfl, h1, ⟨Nat.le_trans h1 h2, Nat.le_trans h2 (by omega)⟩, h3, fun i hi => Classical.choose_spec (each' i) hi⟩
/-- bytes: a row -/
structure RwD where
  a : Option Addr
  c : Nat
  z : List Int
def RwD.cell (r : RwD) : Value := .slice r.a r.z.length r.c
def RwOk (M : Nat) (w : World) (r : RwD) : Prop := RowOf w r.cell r.a r.c r.z ∧ r.z.length ≤ M
theorem RwOk.below {M : Nat} {w w' : World} {r : RwD} (h : RwOk M w r) (hb : Below w.heap.size w w') : RwOk M w' r := ⟨h.1.below hb, h.2⟩
theorem Ok.row {w : World} {M f : Nat} {c : List Value} (hM : M ≤ 140737488351232) (h : Ok Tryz.prog w M (f + 2) 22 c) : ∃ r : RwD, c = [r.cell] ∧ RwOk M w r := by
  obtain ⟨a, len, cap, rfl, h1, h2, h3, h4⟩ := h.slice Tryz.underlying22
  have hk : Tryz.prog.cellsOf 5 = 1 := by kernel_rfl
  have each : ∀ i, ∃ z : Int, i < len → ∃ b o, a = some ⟨b, o, none⟩ ∧ w.cell? ⟨b, o + i, none⟩ = some (.int .u8 z) ∧ 0 ≤ z ∧ z ≤ 255 := fun i => by
    rcases Nat.lt_or_ge i len with hi | hi
    · obtain ⟨b, o, cs', e1, e2, e3, e4⟩ := h4 i hi
      obtain ⟨z, rfl, hz⟩ := e4.int Tryz.underlying5
      rw [hk, Nat.mul_one] at e3
      exact ⟨z, fun _ => ⟨b, o, e1, by have := e3 0 (by simp); simpa using this, bounds_u8 hz⟩⟩
    · exact ⟨0, fun h => absurd h (by omega)⟩
  have hZ : ∃ Z : Nat → Int, ∀ i, i < len → ∃ b o, a = some ⟨b, o, none⟩ ∧ w.cell? ⟨b, o + i, none⟩ = some (.int .u8 (Z i)) ∧ 0 ≤ Z i ∧ Z i ≤ 255 := ⟨fun i => Classical.choose (each i), fun i hi => Classical.choose_spec (each i) hi⟩
  obtain ⟨Z, hZ⟩ := hZ
  have hl : ((List.range len).map Z).length = len := by simp
  refine ⟨⟨a, cap, (List.range len).map Z⟩, by unfold RwD.cell; rw [hl], ⟨rfl, ?_, by rw [hl]; omega, by rw [hl]; exact h1, by show cap ≤ _; omega, h3, fun y hy => ?_, fun q hq h0 => ?_⟩, by show ((List.range len).map Z).length ≤ M; rw [hl]; exact Nat.le_trans h1 h2⟩
  · rw [hl]
    refine fun h0 => ?_
    obtain ⟨b, o, e1, _⟩ := hZ 0 h0
    refine ⟨b, o, e1, fun i hi => ?_⟩
    obtain ⟨b', o', e2, e3, _⟩ := hZ i hi
    rw [e1] at e2
    cases e2
    rw [e3]
    simp [List.getD_eq_getElem?_getD, hi]
  · obtain ⟨i, hi, rfl⟩ := List.mem_map.1 hy
    obtain ⟨_, _, _, _, h1, h2⟩ := hZ i (List.mem_range.1 hi)
    exact ⟨h1, h2⟩
  · rw [hl] at h0
    obtain ⟨b, o, e1, e3, _⟩ := hZ 0 h0
    have hq' : a = some q := hq
    rw [e1] at hq'
    cases hq'
    exact cell_lt e3
end Go.Proofs.YtbjbjgfjaopibaaGreatDoor
end

section
/- Data that came in, of any plain type: what its cells hold. The weights bound every length. -/
namespace Go.Proofs.YtbjbjgfjaopibaaGreatDoor
open Go Go.ChangeShapes Go.WideShapes Go.ChangeAt Go.RowKit
set_option linter.unusedVariables false

/-- are all types that t reaches plain ones, their elements of one byte at least? -/
def plainTyW (P : Program) : Nat → TypeId → Bool
  | 0, _ => false
  | f + 1, t => match P.underlying t with
    | some (.int _) => true
    | some .bool => true
    | some .string => true
    | some (.slice e) => decide (0 < P.cellsOf e) && (decide (0 < P.bytesOf e) && plainTyW P f e)
    | some (.struct fs) => fs.toList.all fun x => plainTyW P f x.type
    | some (.array _ e) => plainTyW P f e
    | _ => false
theorem weightsAll_at {H : Type} {P : Program} {e : TypeId} : ∀ {l : List (DataW H)} {d : DataW H}, d ∈ l → ∀ n ∈ d.weights P e, n ∈ DataW.weightsAll P e l
  | d' :: r, d, hd, n, hn => by
    simp only [DataW.weightsAll, List.mem_append]
    rcases List.mem_cons.1 hd with rfl | h
    · exact Or.inl hn
    · exact Or.inr (weightsAll_at h n hn)
theorem weightsEach_at {H : Type} {P : Program} : ∀ {ts : List TypeId} {ds : List (DataW H)} {i : Nat} {t : TypeId} {d : DataW H}, ts[i]? = some t → ds[i]? = some d → ∀ n ∈ d.weights P t, n ∈ DataW.weightsEach P ts ds
  | [], _, _, _, _, ht, _, _, _ => by simp at ht
  | _ :: _, [], _, _, _, _, hd, _, _ => by simp at hd
  | t' :: ts, d' :: ds, 0, t, d, ht, hd, n, hn => by
    simp only [List.getElem?_cons_zero, Option.some.injEq] at ht hd
    subst ht; subst hd
    simp only [DataW.weightsEach, List.mem_append]
    exact Or.inl hn
  | t' :: ts, d' :: ds, i + 1, t, d, ht, hd, n, hn => by
    simp only [List.getElem?_cons_succ] at ht hd
    simp only [DataW.weightsEach, List.mem_append]
    exact Or.inr (weightsEach_at ht hd n hn)
/-- WHAT CAME IN, of a plain type: its weights bound every length -/
theorem ok_of_trodW {H : Type} {enc : TypeId × Value → H} {P : Program} {w : World} {M : Nat} : ∀ {f n : Nat} {t : TypeId} {cs : List Value} {x : DataW H × List MemPlace},
    plainTyW P f t = true → DataW.trod enc P w 0 (fun _ => true) true n t cs = some x → (∀ m ∈ x.1.weights P t, m ≤ M) → Ok P w M f t cs
  | 0, _, _, _, _, h, _, _ => by simp [plainTyW] at h
  | f + 1, n, t, cs, x, hp, h, hM => by
    unfold plainTyW at hp
    unfold Ok
    split at hp <;> rename_i hu <;> (try rw [hu]) <;> (try simp only [])
    · obtain ⟨z, h1, _, h2⟩ := DataW.trod_int hu h
      exact ⟨z, h1, h2⟩
    · obtain ⟨b, h1, _⟩ := DataW.trod_bool hu h
      exact ⟨b, h1⟩
    · obtain ⟨s, h1, rfl, _⟩ := DataW.trod_string hu h
      refine ⟨s, h1, ?_⟩
      have e : s.data.toList.length = s.size := by rw [Array.length_toList]; rfl
      have := hM s.data.toList.length (by simp [DataW.weights])
      omega
    · rename_i e
      rw [Bool.and_eq_true, Bool.and_eq_true] at hp
      obtain ⟨hp0, hp1, hp⟩ := hp
      have hp0 := of_decide_eq_true hp0
      have hp1 := of_decide_eq_true hp1
      rcases Go.Deep.open_slice hu h with ⟨rfl, _⟩ | ⟨a, len, cap, m, n', D, Pl, rfl, _, hl, hm, hmm, rfl, hi⟩
      · exact ⟨none, 0, 0, rfl, Nat.le_refl _, Nat.zero_le _, fun _ => rfl, fun i hi => by omega⟩
      · simp only [if_true] at hmm
        subst hmm
        have h1 := hM ((((List.range len).map D).length + ((List.range (m - len)).map fun j => D (len + j)).length) * P.bytesOf e) (by simp [DataW.weights, hu])
        simp only [List.length_map, List.length_range] at h1
        have h2 : (len + (m - len)) * 1 ≤ (len + (m - len)) * P.bytesOf e := Nat.mul_le_mul_left _ hp1
        refine ⟨some a, len, m, rfl, hl, by omega, fun h => (by cases h), fun i hlt => ?_⟩
        obtain ⟨cs', hc, ht'⟩ := hi i (by omega)
        obtain ⟨_, hcl, hat⟩ := World.cells?_some hc
        have hD : ∀ k ∈ (D i).weights P e, k ≤ M := fun k hk => hM k (by
          simp only [DataW.weights, hu, List.mem_cons, List.mem_append]
          exact .inr (.inl (weightsAll_at (List.mem_map.2 ⟨i, List.mem_range.2 hlt, rfl⟩) k hk)))
        have hOk := ok_of_trodW hp ht' hD
        obtain ⟨b, o, s⟩ := a
        obtain ⟨cs0, hc0, _⟩ := hi 0 (by omega)
        obtain ⟨_, hcl0, hat0⟩ := World.cells?_some hc0
        have hat0 := hat0 0 hp0
        rw [List.getElem?_eq_getElem (by omega)] at hat0
        obtain rfl : s = none := by simpa [Addr.add] using World.cell?_spot hat0
        refine ⟨b, o, cs', rfl, hcl, fun j hj => ?_, hOk⟩
        have := hat j (by omega)
        rw [Go.Deep.add_add, Addr.add_lit, ← Nat.add_assoc] at this
        exact this
    · obtain ⟨xs, n', _, rfl, hl, hlen, hf⟩ := DataW.trod_struct hu h
      refine ⟨hl, fun i fd hfd => ?_⟩
      have hi := (Array.getElem?_eq_some_iff.1 hfd).1
      have h1 := hf i fd hfd
      rw [List.getElem?_eq_getElem (by omega)] at h1
      refine ok_of_trodW (List.all_eq_true.1 hp fd (by
        rw [Array.mem_toList_iff]; exact Array.mem_of_getElem? hfd)) h1 (fun k hk => hM k ?_)
      simp only [DataW.weights, hu]
      refine weightsEach_at (i := i) (t := fd.type) (d := (xs[i]'(by omega)).1) ?_ ?_ k hk
      · rw [List.getElem?_map, Array.getElem?_toList, hfd]; rfl
      · rw [List.getElem?_map, List.getElem?_eq_getElem (by omega)]; rfl
    · obtain ⟨xs, n', _, rfl, hl, hlen, hf⟩ := DataW.trod_array hu h
      refine ⟨hl, fun i hi => ?_⟩
      have h1 := hf i hi
      rw [List.getElem?_eq_getElem (by omega)] at h1
      refine ok_of_trodW hp h1 (fun k hk => hM k ?_)
      simp only [DataW.weights, hu]
      exact weightsAll_at (List.mem_map.2 ⟨_, List.getElem_mem (by omega), rfl⟩) k hk
    · simp at hp
end Go.Proofs.YtbjbjgfjaopibaaGreatDoor
end
