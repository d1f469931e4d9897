import Derived.Test.YtbjbjgfjaopibaaDoorCr2
import Derived.Maps.OwnSet
import Derived.Test.YtbjbjgfjaopibaaDoorRows
import Derived.ProofKit
import Derived.OpenShut
import Derived.ShutString
import Derived.WalkKit
import Derived.Laws.StructEq
section
/- Counts read: size.width, cut, Decode. -/
namespace Go.Proofs.YtbjbjgfjaopibaaDoor
open Go Go.RowKit
set_option linter.unusedSimpArgs false
set_option linter.unusedVariables false
set_option maxRecDepth 100000

/-- how many bytes stand behind a count's first one, and the least number that needs them -/
def decW (b : Int) : Nat := if b = 253 then 2 else if b = 254 then 4 else if b = 255 then 8 else 0
def decL (b : Int) : Nat := if b = 253 then 253 else if b = 254 then 65536 else if b = 255 then 4294967296 else 0
def decE (bs : List Int) : Int := match bs with | [] => 50 | b :: r => if decW b = 0 then 0 else if r.length < decW b then 50 else if leN (r.take (decW b)) < decL b then 51 else 0
def decN (bs : List Int) : Nat := match bs with | [] => 0 | b :: r => if decW b = 0 then b.toNat else leN (r.take (decW b))
def decR (bs : List Int) : List Int := match bs with | [] => [] | b :: r => r.drop (decW b)
theorem below_drewN (w : World) : ∀ n, Below w.heap.size w (w.drewN n) := fun n => ⟨rfl, rfl, rfl, Nat.le_refl _, fun _ _ => rfl⟩
theorem decW_le (b : Int) : decW b ≤ 8 := by unfold decW; split <;> (try split) <;> (try split) <;> omega
theorem pwidth (b : Int) (w : World) : Calls Tryd.prog 100 #[.int .u8 b] w fun e w' => e = .returned (.tuple #[.int .i64 (decW b : Int), .int .u64 (decL b : Int)]) ∧ w = w' := by
  by_cases h1 : b = 253
  · subst h1
    go_enter Tryd.func100, Tryd.ntmps100
    go_wp2
    go_ret2
    exact ⟨rfl, rfl⟩
  · by_cases h2 : b = 254
    · subst h2
      go_enter Tryd.func100, Tryd.ntmps100
      go_wp2
      go_ret2
      exact ⟨rfl, rfl⟩
    · by_cases h3 : b = 255
      · subst h3
        go_enter Tryd.func100, Tryd.ntmps100
        go_wp2
        go_ret2
        exact ⟨rfl, rfl⟩
      · have e1 : (b == 253) = false := beq_false_of_ne h1
        have e2 : (b == 254) = false := beq_false_of_ne h2
        have e3 : (b == 255) = false := beq_false_of_ne h3
        have HW := Lib.hid (show decW b = 0 ∧ decL b = 0 from ⟨by unfold decW; rw [if_neg h1, if_neg h2, if_neg h3], by unfold decL; rw [if_neg h1, if_neg h2, if_neg h3]⟩)
        clear h1 h2 h3
        go_enter Tryd.func100, Tryd.ntmps100
        go_wp2
        go_ret2
        exact ⟨by rw [HW.out.1, HW.out.2]; rfl, rfl⟩
/-- what is cut: bytes that stand behind, in the same memory -/
def CutAt (w : World) (v : Value) (xs : List Int) : Prop := ∃ p c, v = .slice p xs.length c ∧ Lib.BytesIn w p xs.length xs ∧ xs.length ≤ c ∧ (c ≤ 9223372036854775807 ∧ xs.length ≤ 140737488355328) ∧ ∃ a, p = some a
theorem bytes_in_drop {w : World} {b o n : Nat} {xs : List Int} (hc : ∀ i, i < n → w.cell? ⟨b, o + i, none⟩ = some (.int .u8 (xs.getD i 0))) (hn : xs.length = n) (k : Nat) (p : Option Addr) (hp : k < n → p = some ⟨b, o + k, none⟩) : Lib.BytesIn w p (xs.drop k).length (xs.drop k) := fun h0 => by
  rw [List.length_drop] at h0
  refine ⟨b, o + k, hp (by omega), fun i hi => ?_⟩
  rw [List.length_drop] at hi
  rw [Nat.add_assoc, hc (k + i) (by omega)]
  simp [List.getD_eq_getElem?_getD, List.getElem?_drop]
/-- what 'cut' answers -/
def CutPost (bs : List Int) (w : World) (e : Ending) (w' : World) : Prop :=
  ∃ (x : Int) (v : Value), e = .returned (.tuple #[.int .u64 x, v, .int .i64 (decE bs)]) ∧ Below w.heap.size w w' ∧ (decE bs = 0 → x = (decN bs : Int) ∧ CutAt w' v (decR bs)) ∧ (decE bs ≠ 0 → x = 0 ∧ v = .slice none 0 0)
theorem CutPost.err {bs : List Int} {w w' : World} {E : Int} (h : decE bs = E) (hE : E ≠ 0) (hb : Below w.heap.size w w') : CutPost bs w (.returned (.tuple #[.int .u64 0, .slice none 0 0, .int .i64 E])) w' :=
  ⟨0, _, by rw [h], hb, fun h0 => absurd (h.symm.trans h0) hE, fun _ => ⟨rfl, rfl⟩⟩
theorem CutPost.ok {bs : List Int} {w w' : World} {x : Int} {v : Value} (h : decE bs = 0) (hx : x = (decN bs : Int)) (hv : CutAt w' v (decR bs)) (hb : Below w.heap.size w w') : CutPost bs w (.returned (.tuple #[.int .u64 x, v, .int .i64 0])) w' :=
  ⟨x, v, by rw [h], hb, fun _ => ⟨hx, hv⟩, fun h1 => absurd h h1⟩
theorem pcut_nil (q : Option Addr) (c : Nat) (w : World) : Calls Tryd.prog 91 #[.slice q 0 c] w (CutPost [] w) := by
  go_enter Tryd.func91, Tryd.ntmps91
  go_wp2
  exact bodyPost_ret (results_tmp3 Tryd.results91 _ _ _) rfl (CutPost.err rfl (by decide) (Below.refl _ _))
set_option maxHeartbeats 3200000 in
theorem pcut0 (b : Int) (r : List Int) (pb po c : Nat) (w : World) (hc : ∀ i, i < r.length + 1 → w.cell? ⟨pb, po + i, none⟩ = some (.int .u8 ((b :: r).getD i 0))) (hr : 0 ≤ b ∧ b ≤ 255) (hlc : r.length + 1 ≤ c) (hcm : c ≤ 9223372036854775807) (hl47 : r.length + 1 ≤ 140737488355328) (hW : decW b = 0) :
    Calls Tryd.prog 91 #[.slice (some ⟨pb, po, none⟩) (r.length + 1) c] w (CutPost (b :: r) w) := by
  have PW := Lib.hid (pwidth b w)
  rw [hW] at PW
  have c0 := hc 0 (by omega)
  rw [List.getD_cons_zero, Nat.add_zero] at c0
  have hbw : IntKind.u64.wrap b = b := IntWalk.u64_in _ (by omega)
  have HE := Lib.hid (show decE (b :: r) = 0 from if_pos hW)
  have HN := Lib.hid (show b = (decN (b :: r) : Int) from by unfold decN; simp only; rw [if_pos hW]; omega)
  have HR := Lib.hid (show ∀ m p, (1 < r.length + 1 → p = some ⟨pb, po + 1, none⟩) → (∃ a, p = some a) → CutAt (w.drewN m) (.slice p r.length (c - 1)) (decR (b :: r)) from fun m p hp ha => ⟨p, c - 1, by unfold decR; simp only; rw [hW, List.drop_zero], by
    have e : decR (b :: r) = (b :: r).drop 1 := by unfold decR; simp only; rw [hW]; rfl
    rw [e]
    exact bytes_in_drop (w := w.drewN m) hc (by simp) 1 p hp, by unfold decR; simp only; rw [hW, List.drop_zero]; omega, ⟨by omega, by unfold decR; simp only; rw [hW, List.drop_zero]; omega⟩, ha⟩)
  clear hc hW
  by_cases h1 : c = 1
  · have hr0 : r.length = 0 := by omega
    generalize r.length = N at *
    subst hr0
    subst h1
    go_enter Tryd.func91, Tryd.ntmps91
    go_wp2_with fail
    refine PW.out.mono ?_
    rintro e w1 ⟨rfl, rfl⟩
    go_wp2
    go_quiet (fail)
    go_wp2
    exact bodyPost_ret (results_tmp3 Tryd.results91 _ _ _) rfl (CutPost.ok HE.out HN.out (HR.out _ _ (fun h => by omega) ⟨_, rfl⟩) (below_drewN w _))
  · have hcn : ¬ c = 1 := h1
    clear h1
    obtain ⟨N, hN⟩ : ∃ N, N = r.length := ⟨_, rfl⟩
    rw [← hN] at hlc HR ⊢
    have HNN := Lib.hid hN
    clear hN
    have k1 : (1 : Int) ≤ (N : Int) + 1 := by omega
    have k2 : (N : Int) + 1 ≤ (c : Int) := by omega
    have k3 : 1 ≤ N + 1 := by omega
    go_enter Tryd.func91, Tryd.ntmps91
    go_wp2_with fail
    refine PW.out.mono ?_
    rintro e w1 ⟨rfl, rfl⟩
    go_upto_region 5 with fail
    refine wp_region_held_drew (S := fun w' => w' = w.drew) (by kernel_rfl) rfl (fun hS => ?_)
    refine wpAnyH_take (i := 0) (oi := ⟨_, _, _, _, _, _⟩) (v := ?_) rfl (by kernel_rfl) (by kernel_rfl) (by kernel_rfl) (fun _ _ _ h => h) (Or.inl ⟨by rfl, ?_⟩) hS ?_
    rotate_left
    · intro w0 hs; subst hs; go_simp; try (with_reducible rfl)
    try simp only [Act.put, List.setIfInBounds_toArray, List.set_cons_zero, List.set_cons_succ]
    refine wpAnyH_take (i := 1) (oi := ⟨_, _, _, _, _, _⟩) (v := ?_) rfl (by kernel_rfl) (by kernel_rfl) (by kernel_rfl) (fun _ _ _ h => h) (Or.inl ⟨by rfl, ?_⟩) hS ?_
    rotate_left
    · intro w0 hs; subst hs; go_simp; try (with_reducible rfl)
    try simp only [Act.put, List.setIfInBounds_toArray, List.set_cons_zero, List.set_cons_succ]
    refine wpAnyH_take (i := 2) (oi := ⟨_, _, _, _, _, _⟩) (v := ?_) rfl (by kernel_rfl) (by kernel_rfl) (by kernel_rfl) (fun _ _ _ h => h) (Or.inl ⟨by rfl, ?_⟩) hS ?_
    rotate_left
    · intro w0 hs; subst hs; go_simp; try (with_reducible rfl)
    try simp only [Act.put, List.setIfInBounds_toArray, List.set_cons_zero, List.set_cons_succ]
    refine wpAnyH_take (i := 3) (oi := ⟨_, _, _, _, _, _⟩) (v := ?_) rfl (by kernel_rfl) (by kernel_rfl) (by kernel_rfl) (fun _ _ _ h => h) (Or.inl ⟨by rfl, ?_⟩) hS ?_
    rotate_left
    · intro w0 hs; subst hs; go_simp; try (with_reducible rfl)
    try simp only [Act.put, List.setIfInBounds_toArray, List.set_cons_zero, List.set_cons_succ]
    refine wpAnyH_take (i := 4) (oi := ⟨_, _, _, _, _, _⟩) (v := ?_) rfl (by kernel_rfl) (by kernel_rfl) (by kernel_rfl) (fun _ _ _ h => h) (Or.inl ⟨by rfl, ?_⟩) hS ?_
    rotate_left
    · intro w0 hs; subst hs; go_simp; try (with_reducible rfl)
    try simp only [Act.put, List.setIfInBounds_toArray, List.set_cons_zero, List.set_cons_succ]
    refine wpAnyH_take (i := 5) (oi := ⟨_, _, _, _, _, _⟩) (v := ?_) rfl (by kernel_rfl) (by kernel_rfl) (by kernel_rfl) (fun _ _ _ h => h) (Or.inl ⟨by rfl, ?_⟩) hS ?_
    rotate_left
    · intro w0 hs; subst hs; go_simp; try (with_reducible rfl)
    try simp only [Act.put, List.setIfInBounds_toArray, List.set_cons_zero, List.set_cons_succ]
    refine wpAnyH_take (i := 6) (oi := ⟨_, _, _, _, _, _⟩) (v := ?_) rfl (by kernel_rfl) (by kernel_rfl) (by kernel_rfl) (fun _ _ _ h => h) (Or.inl ⟨by rfl, ?_⟩) hS ?_
    rotate_left
    · intro w0 hs; subst hs; go_simp; try (with_reducible rfl)
    try simp only [Act.put, List.setIfInBounds_toArray, List.set_cons_zero, List.set_cons_succ]
    refine wpAnyH_take (i := 7) (oi := ⟨_, _, _, _, _, _⟩) (v := ?_) rfl (by kernel_rfl) (by kernel_rfl) (by kernel_rfl) (fun _ _ _ h => h) (Or.inl ⟨by rfl, ?_⟩) hS ?_
    rotate_left
    · intro w0 hs; subst hs; go_simp; try (with_reducible rfl)
    try simp only [Act.put, List.setIfInBounds_toArray, List.set_cons_zero, List.set_cons_succ]
    refine wpAnyH_take (i := 8) (oi := ⟨_, _, _, _, _, _⟩) (v := ?_) rfl (by kernel_rfl) (by kernel_rfl) (by kernel_rfl) (fun _ _ _ h => h) (Or.inl ⟨by rfl, ?_⟩) hS ?_
    rotate_left
    · intro w0 hs; subst hs; go_simp; try (with_reducible rfl)
    try simp only [Act.put, List.setIfInBounds_toArray, List.set_cons_zero, List.set_cons_succ]
    refine wpAnyH_done (by kernel_rfl) ?_ _
    go_wp2
    exact bodyPost_ret (results_tmp3 Tryd.results91 _ _ _) rfl (CutPost.ok HE.out HN.out (HR.out 1 _ (fun h => rfl) ⟨_, rfl⟩) (below_drewN w 1))
theorem decE_W {b : Int} {r : List Int} {W : Nat} (hW : decW b = W) (h0 : 0 < W) : decE (b :: r) = if r.length < W then 50 else if leN (r.take W) < decL b then 51 else 0 := by
  unfold decE; simp only; rw [hW, if_neg (by omega)]
theorem decN_W {b : Int} {r : List Int} {W : Nat} (hW : decW b = W) (h0 : 0 < W) : decN (b :: r) = leN (r.take W) := by
  unfold decN; simp only; rw [hW, if_neg (by omega)]
theorem pcut_short (b : Int) (r : List Int) (W : Nat) (pb po c : Nat) (w : World) (hc : ∀ i, i < r.length + 1 → w.cell? ⟨pb, po + i, none⟩ = some (.int .u8 ((b :: r).getD i 0))) (hlc : r.length + 1 ≤ c) (hcm : c ≤ 9223372036854775807) (hl47 : r.length + 1 ≤ 140737488355328) (hW : decW b = W) (h0 : 0 < W) (hs : r.length < W) :
    Calls Tryd.prog 91 #[.slice (some ⟨pb, po, none⟩) (r.length + 1) c] w (CutPost (b :: r) w) := by
  have PW := Lib.hid (pwidth b w)
  rw [hW] at PW
  have c0 := hc 0 (by omega)
  rw [List.getD_cons_zero, Nat.add_zero] at c0
  have HE := Lib.hid (show decE (b :: r) = 50 from by rw [decE_W hW h0, if_pos hs])
  have e1 : ((W : Int) == 0) = false := beq_false_of_ne (by omega)
  have e2 : decide ((r.length : Int) + 1 ≤ (W : Int)) = true := decide_eq_true (by omega)
  have e3 : decide (r.length + 1 ≤ W) = true := decide_eq_true (by omega)
  have e4 : r.length + 1 ≤ W := by omega
  clear hc hW
  generalize decL b = L at *
  go_enter Tryd.func91, Tryd.ntmps91
  go_wp2_with fail
  refine PW.out.mono ?_
  rintro e w1 ⟨rfl, rfl⟩
  go_wp2
  exact bodyPost_ret (results_tmp3 Tryd.results91 _ _ _) rfl (CutPost.err HE.out (by decide) (Below.refl _ _))
set_option maxHeartbeats 3200000 in
theorem pcutW (b : Int) (r : List Int) (W : Nat) (pb po c : Nat) (w : World) (hc : ∀ i, i < r.length + 1 → w.cell? ⟨pb, po + i, none⟩ = some (.int .u8 ((b :: r).getD i 0))) (hr : ∀ y ∈ r, 0 ≤ y ∧ y ≤ 255) (hlc : r.length + 1 ≤ c) (hcm : c ≤ 9223372036854775807) (hl47 : r.length + 1 ≤ 140737488355328) (hW : decW b = W) (h0 : 0 < W) (hs : W ≤ r.length) :
    Calls Tryd.prog 91 #[.slice (some ⟨pb, po, none⟩) (r.length + 1) c] w (CutPost (b :: r) w) := by
  have hW8 : W ≤ 8 := by rw [← hW]; exact decW_le b
  have PW := Lib.hid (pwidth b w)
  rw [hW] at PW
  have c0 := hc 0 (by omega)
  rw [List.getD_cons_zero, Nat.add_zero] at c0
  have HE := Lib.hid (show decE (b :: r) = if leN (r.take W) < decL b then 51 else 0 from by rw [decE_W hW h0, if_neg (by omega)])
  have HN := Lib.hid (decN_W (r := r) hW h0)
  have HT := Lib.hid (show (r.take W).length = W from by rw [List.length_take]; omega)
  have HRT := Lib.hid (show ∀ y ∈ r.take W, 0 ≤ y ∧ y ≤ 255 from fun y hy => hr y (List.mem_of_mem_take hy))
  have HC := Lib.hid (show ∀ k, k < W → w.cell? ⟨pb, po + 1 + k, none⟩ = some (.int .u8 ((r.take W).getD k 0)) from fun k hk => by
    rw [Nat.add_assoc, hc (1 + k) (by omega), Nat.add_comm 1 k, List.getD_cons_succ]
    congr 2
    rw [List.getD_eq_getElem?_getD, List.getD_eq_getElem?_getD, List.getElem?_take, if_pos hk])
  have HR := Lib.hid (show ∀ m p, (W + 1 < r.length + 1 → p = some ⟨pb, po + (W + 1), none⟩) → (∃ a, p = some a) → CutAt (w.drewN m) (.slice p (r.length - W) (c - (W + 1))) (decR (b :: r)) from fun m p hp ha => by
    have e : decR (b :: r) = (b :: r).drop (W + 1) := by unfold decR; simp only; rw [hW]; rfl
    have hl : (decR (b :: r)).length = r.length - W := by rw [e]; simp
    refine ⟨p, c - (W + 1), by rw [hl], ?_, by rw [hl]; omega, ⟨by omega, by rw [hl]; omega⟩, ha⟩
    rw [e]
    exact bytes_in_drop (w := w.drewN m) hc (by simp) (W + 1) p hp)
  have e1 : ((W : Int) == 0) = false := beq_false_of_ne (by omega)
  have e2 : decide ((r.length : Int) + 1 ≤ (W : Int)) = false := decide_eq_false (by omega)
  have e3 : decide (r.length + 1 ≤ W) = false := decide_eq_false (by omega)
  have hsl := Lib.hid hs
  obtain ⟨N, hN⟩ : ∃ N, N = r.length := ⟨_, rfl⟩
  rw [← hN] at e2 e3 hlc hs HR ⊢
  have HNN := Lib.hid hN
  have s1 : IntKind.i64.wrap (1 + (W : Int)) = 1 + (W : Int) := by rw [IntKind.wrap_i64]; omega
  have s2 : (1 : Int) ≤ 1 + (W : Int) := by omega
  have s3 : 1 + (W : Int) ≤ (N : Int) + 1 := by omega
  have s4 : 1 + (W : Int) ≤ (c : Int) := by omega
  have s5 : (1 + (W : Int)).toNat = 1 + W := by omega
  have s6 : 0 ≤ 1 + (W : Int) := by omega
  have s7 : ¬ 1 + W = 1 := by omega
  have hcn : ¬ c = 1 := by omega
  clear hc hW hN hr
  generalize hL : decL b = L at *
  go_enter Tryd.func91, Tryd.ntmps91
  go_wp2_with fail
  refine PW.out.mono ?_
  rintro e w1 ⟨rfl, rfl⟩
  go_wp2
  go_loopg [7, 39] W (fun gh s i wx => ∃ k t : Nat, k ≤ W ∧ s = .int .u64 (t : Int) ∧ i = .int .i64 (k : Int) ∧ gh = W - k ∧ Hid (t = leN ((r.take W).take k)) ∧ wx = w)
  case atStart => exact ⟨0, 0, Nat.zero_le _, rfl, rfl, rfl, by rw [List.take_zero]; rfl, rfl⟩
  case round =>
    obtain ⟨k, t, hk, rfl, rfl, hg, HTT, hwx⟩ := hrel
    obtain rfl : w = wr := hwx.symm
    have HGK := Lib.hid hg
    clear hg
    by_cases hlt : k < W
    · have cb := HC.out k hlt
      have hst := le_step (r.take W) HRT.out k (by rw [HT.out]; exact hlt) (by rw [HT.out]; exact hW8)
      have hx := getD_rng HRT.out k
      generalize (r.take W).getD k 0 = x at *
      rw [← HTT.out] at hst
      generalize hu : leN ((r.take W).take (k + 1)) = u at *
      have HU := Lib.hid hu
      obtain ⟨hx0, hx1⟩ := hx
      have a2 : IntKind.i64.wrap (8 * (k : Int)) = 8 * (k : Int) := by rw [IntKind.wrap_i64]; omega
      have hux : IntKind.u64.wrap x = x := IntWalk.u64_in _ (by omega)
      clear hu
      go_wp2
      go_roundg (W - (k + 1))
      case measure => rw [HGK.out]; omega
      case rel => exact ⟨k + 1, u, hlt, rfl, rfl, rfl, HU.out.symm, rfl⟩
    · obtain rfl : k = W := by omega
      have ht : t = leN (r.take k) := by rw [HTT.out, List.take_of_length_le (by rw [HT.out]; exact Nat.le_refl _)]
      rw [← ht] at HE HN
      clear ht HTT
      by_cases hlL : t < L
      · have HE2 := Lib.hid (show decE (b :: r) = 51 from by rw [HE.out, if_pos hlL])
        have d1 : decide ((t : Int) < (L : Int)) = true := decide_eq_true (by omega)
        have d2 : decide (t < L) = true := decide_eq_true hlL
        go_wp2
        exact bodyPost_ret (results_tmp3 Tryd.results91 _ _ _) rfl (CutPost.err HE2.out (by decide) (Below.refl _ _))
      · have HE2 := Lib.hid (show decE (b :: r) = 0 from by rw [HE.out, if_neg hlL])
        have d1 : decide ((t : Int) < (L : Int)) = false := decide_eq_false (by omega)
        have d2 : decide (t < L) = false := decide_eq_false hlL
        have HN2 := Lib.hid (show (t : Int) = (decN (b :: r) : Int) from by rw [HN.out])
        clear hlL HE HN
        have u1 : IntKind.i64.wrap (1 + (k : Int)) = 1 + (k : Int) := s1
        have u2 : N + 1 - (1 + k) = N - k := by omega
        have u3 : 1 + k ≤ N + 1 := by omega
        have HP := Lib.hid (show ∀ m, CutAt (w.drewN m) (.slice (if c = 1 + k then some ⟨pb, po, none⟩ else some ⟨pb, po + (1 + k), none⟩) (N - k) (c - (1 + k))) (decR (b :: r)) from fun m => by
          have := HR.out m (if c = 1 + k then some ⟨pb, po, none⟩ else some ⟨pb, po + (1 + k), none⟩) (fun h => by rw [if_neg (by omega), Nat.add_comm k 1]) (by split <;> exact ⟨_, rfl⟩)
          rw [Nat.add_comm k 1] at this; exact this)
        generalize hpp : (if c = 1 + k then some (⟨pb, po, none⟩ : Addr) else some ⟨pb, po + (1 + k), none⟩) = pp at *
        go_upto_region 16 with fail
        refine wp_region_held_drew (S := fun w' => w' = w.drew) (by kernel_rfl) rfl (fun hS => ?_)
        refine wpAnyH_take (i := 0) (oi := ⟨_, _, _, _, _, _⟩) (v := ?_) rfl (by kernel_rfl) (by kernel_rfl) (by kernel_rfl) (fun _ _ _ h => h) (Or.inl ⟨by rfl, ?_⟩) hS ?_
        rotate_left
        · intro w0 hs; subst hs; go_simp; try (with_reducible rfl)
        try simp only [Act.put, List.setIfInBounds_toArray, List.set_cons_zero, List.set_cons_succ]
        refine wpAnyH_take (i := 1) (oi := ⟨_, _, _, _, _, _⟩) (v := ?_) rfl (by kernel_rfl) (by kernel_rfl) (by kernel_rfl) (fun _ _ _ h => h) (Or.inl ⟨by rfl, ?_⟩) hS ?_
        rotate_left
        · intro w0 hs; subst hs; go_simp; try (with_reducible rfl)
        try simp only [Act.put, List.setIfInBounds_toArray, List.set_cons_zero, List.set_cons_succ]
        refine wpAnyH_take (i := 2) (oi := ⟨_, _, _, _, _, _⟩) (v := ?_) rfl (by kernel_rfl) (by kernel_rfl) (by kernel_rfl) (fun _ _ _ h => h) (Or.inl ⟨by rfl, ?_⟩) hS ?_
        rotate_left
        · intro w0 hs; subst hs; go_simp; try (with_reducible rfl)
        try simp only [Act.put, List.setIfInBounds_toArray, List.set_cons_zero, List.set_cons_succ]
        refine wpAnyH_take (i := 3) (oi := ⟨_, _, _, _, _, _⟩) (v := ?_) rfl (by kernel_rfl) (by kernel_rfl) (by kernel_rfl) (fun _ _ _ h => h) (Or.inl ⟨by rfl, ?_⟩) hS ?_
        rotate_left
        · intro w0 hs; subst hs; go_simp; try (with_reducible rfl)
        try simp only [Act.put, List.setIfInBounds_toArray, List.set_cons_zero, List.set_cons_succ]
        refine wpAnyH_take (i := 4) (oi := ⟨_, _, _, _, _, _⟩) (v := ?_) rfl (by kernel_rfl) (by kernel_rfl) (by kernel_rfl) (fun _ _ _ h => h) (Or.inl ⟨by rfl, ?_⟩) hS ?_
        rotate_left
        · intro w0 hs; subst hs; go_simp; try (with_reducible rfl)
        try simp only [Act.put, List.setIfInBounds_toArray, List.set_cons_zero, List.set_cons_succ]
        refine wpAnyH_take (i := 5) (oi := ⟨_, _, _, _, _, _⟩) (v := ?_) rfl (by kernel_rfl) (by kernel_rfl) (by kernel_rfl) (fun _ _ _ h => h) (Or.inl ⟨by rfl, ?_⟩) hS ?_
        rotate_left
        · intro w0 hs; subst hs; go_simp; try (with_reducible rfl)
        try simp only [Act.put, List.setIfInBounds_toArray, List.set_cons_zero, List.set_cons_succ]
        refine wpAnyH_take (i := 6) (oi := ⟨_, _, _, _, _, _⟩) (v := ?_) rfl (by kernel_rfl) (by kernel_rfl) (by kernel_rfl) (fun _ _ _ h => h) (Or.inl ⟨by rfl, ?_⟩) hS ?_
        rotate_left
        · intro w0 hs; subst hs; go_simp; try (with_reducible rfl)
        try simp only [Act.put, List.setIfInBounds_toArray, List.set_cons_zero, List.set_cons_succ]
        refine wpAnyH_take (i := 7) (oi := ⟨_, _, _, _, _, _⟩) (v := ?_) rfl (by kernel_rfl) (by kernel_rfl) (by kernel_rfl) (fun _ _ _ h => h) (Or.inl ⟨by rfl, ?_⟩) hS ?_
        rotate_left
        · intro w0 hs; subst hs; go_simp; try (with_reducible rfl)
        try simp only [Act.put, List.setIfInBounds_toArray, List.set_cons_zero, List.set_cons_succ]
        refine wpAnyH_done (by kernel_rfl) ?_ _
        go_wp2
        exact bodyPost_ret (results_tmp3 Tryd.results91 _ _ _) rfl (CutPost.ok HE2.out HN2.out (HP.out 1) (below_drewN w 1))
end Go.Proofs.YtbjbjgfjaopibaaDoor
end

section
/- The journal's bytes, plainly: counts, texts, batches, frames. -/
namespace Go.Proofs.YtbjbjgfjaopibaaDoor
open Go Go.RowKit
set_option linter.unusedSimpArgs false
set_option linter.unusedVariables false
set_option maxRecDepth 100000

/-- all are bytes -/
def Byt (xs : List Int) : Prop := ∀ y ∈ xs, 0 ≤ y ∧ y ≤ 255
theorem Byt.nil : Byt [] := fun y h => by cases h
theorem Byt.app {xs ys : List Int} (h : Byt xs) (k : Byt ys) : Byt (xs ++ ys) := fun y hy => by
  rcases List.mem_append.1 hy with h' | h'
  · exact h y h'
  · exact k y h'
theorem Byt.left {xs ys : List Int} (h : Byt (xs ++ ys)) : Byt xs := fun y hy => h y (List.mem_append_left _ hy)
theorem Byt.right {xs ys : List Int} (h : Byt (xs ++ ys)) : Byt ys := fun y hy => h y (List.mem_append_right _ hy)
theorem Byt.take {xs : List Int} (h : Byt xs) (k : Nat) : Byt (xs.take k) := fun y hy => h y (List.mem_of_mem_take hy)
theorem Byt.drop {xs : List Int} (h : Byt xs) (k : Nat) : Byt (xs.drop k) := fun y hy => h y (List.mem_of_mem_drop hy)
theorem leB_byt (n k : Nat) : Byt (leB n k) := fun y hy => by
  obtain ⟨i, _, rfl⟩ := List.mem_map.1 hy
  have : n / 2 ^ (8 * i) % 256 < 256 := Nat.mod_lt _ (by decide)
  omega
theorem pw256 (k : Nat) : 2 ^ (8 * k) = 256 ^ k := by rw [Nat.pow_mul]
theorem leN_leB (n : Nat) : ∀ k, leN (leB n k) = n % 256 ^ k
  | 0 => by simp [leB, leN, Nat.mod_one]
  | k + 1 => by
    rw [← leB_succ, leN_snoc, leN_leB n k, leB_length, Nat.mod_pow_succ, pw256, Int.toNat_natCast]
theorem leB_cons (n k : Nat) : leB n (k + 1) = ((n % 256 : Nat) : Int) :: leB (n / 256) k := by
  unfold leB
  rw [List.range_succ_eq_map, List.map_cons, List.map_map]
  congr 1
  · simp
  · refine List.map_congr_left fun i _ => ?_
    show ((n / 2 ^ (8 * (i + 1)) % 256 : Nat) : Int) = ((n / 256 / 2 ^ (8 * i) % 256 : Nat) : Int)
    rw [Nat.div_div_eq_div_mul, show 2 ^ (8 * (i + 1)) = 256 * 2 ^ (8 * i) from by rw [Nat.mul_succ, Nat.pow_add]; exact Nat.mul_comm _ _]
theorem leB_leN : ∀ ys : List Int, Byt ys → leB (leN ys) ys.length = ys
  | [], _ => rfl
  | x :: r, h => by
    have hx := h x (by simp)
    have ih := leB_leN r (fun y hy => h y (List.mem_cons_of_mem _ hy))
    rw [List.length_cons, leB_cons]
    have e1 : leN (x :: r) % 256 = x.toNat := by show (x.toNat + 256 * leN r) % 256 = _; omega
    have e2 : leN (x :: r) / 256 = leN r := by show (x.toNat + 256 * leN r) / 256 = _; omega
    rw [e1, e2, ih]
    congr 1; omega
theorem encS_byt (n : Nat) (h : n < 18446744073709551616) : Byt (encS n) := by
  unfold encS
  split
  · intro y hy; rw [List.mem_singleton.1 hy]; omega
  · split
    · intro y hy; rcases List.mem_cons.1 hy with rfl | hy
      · omega
      · exact leB_byt _ _ y hy
    · split
      · intro y hy; rcases List.mem_cons.1 hy with rfl | hy
        · omega
        · exact leB_byt _ _ y hy
      · intro y hy; rcases List.mem_cons.1 hy with rfl | hy
        · omega
        · exact leB_byt _ _ y hy
theorem encS_ne (n : Nat) : 1 ≤ (encS n).length ∧ (encS n).length ≤ 9 := by
  unfold encS; split
  · simp
  · split
    · simp [leB_length]
    · split <;> simp [leB_length]
/-- what was encoded is decoded -/
theorem dec_enc {n : Nat} (h : n < 18446744073709551616) (r : List Int) : decE (encS n ++ r) = 0 ∧ decN (encS n ++ r) = n ∧ decR (encS n ++ r) = r := by
  have big : ∀ (b : Int) (W : Nat), decW b = W → 0 < W → n < 256 ^ W → decL b ≤ n → decE (b :: (leB n W ++ r)) = 0 ∧ decN (b :: (leB n W ++ r)) = n ∧ decR (b :: (leB n W ++ r)) = r := fun b W hW h0 hn hl => by
    have ht : (leB n W ++ r).take W = leB n W := List.take_left' (leB_length n W)
    have hd : (leB n W ++ r).drop W = r := List.drop_left' (leB_length n W)
    have hN : leN ((leB n W ++ r).take W) = n := by rw [ht, leN_leB, Nat.mod_eq_of_lt hn]
    refine ⟨?_, ?_, ?_⟩
    · rw [decE_W hW h0, if_neg (by rw [List.length_append, leB_length]; omega), hN, if_neg (by omega)]
    · rw [decN_W hW h0, hN]
    · show (leB n W ++ r).drop (decW b) = r
      rw [hW, hd]
  by_cases h1 : n < 253
  · rw [encS_1 h1]
    have hW : decW (n : Int) = 0 := by unfold decW; rw [if_neg (by omega), if_neg (by omega), if_neg (by omega)]
    refine ⟨?_, ?_, ?_⟩
    · show (if decW (n : Int) = 0 then (0 : Int) else _) = 0
      rw [if_pos hW]
    · show (if decW (n : Int) = 0 then (n : Int).toNat else _) = n
      rw [if_pos hW]; omega
    · show List.drop (decW (n : Int)) r = r
      rw [hW]; rfl
  · by_cases h2 : n ≤ 65535
    · rw [encS_3 h1 h2]; exact big 253 2 rfl (by decide) (by omega) (by show 253 ≤ n; omega)
    · by_cases h3 : n ≤ 4294967295
      · rw [encS_5 h1 h2 h3]; exact big 254 4 rfl (by decide) (by omega) (by show 65536 ≤ n; omega)
      · rw [encS_9 h1 h2 h3]; exact big 255 8 rfl (by decide) (by omega) (by show 4294967296 ≤ n; omega)
/-- what is decoded was encoded so -/
theorem enc_dec {bs : List Int} (hb : Byt bs) (h : decE bs = 0) : bs = encS (decN bs) ++ decR bs ∧ decN bs < 18446744073709551616 := by
  match bs, hb, h with
  | [], _, h => exact absurd h (by decide)
  | b :: r, hb, h =>
    have h0 := hb b (by simp)
    have hr : Byt r := fun y hy => hb y (List.mem_cons_of_mem _ hy)
    have big : ∀ W : Nat, decW b = W → 0 < W → W ≤ 8 → (∀ n, decL b ≤ n → n < 256 ^ W → encS n = b :: leB n W) → b :: r = encS (decN (b :: r)) ++ decR (b :: r) ∧ decN (b :: r) < 18446744073709551616 := fun W hW hp h8 hE => by
      rw [decE_W hW hp] at h
      by_cases hl : r.length < W
      · rw [if_pos hl] at h; exact absurd h (by decide)
      rw [if_neg hl] at h
      by_cases hm : leN (r.take W) < decL b
      · rw [if_pos hm] at h; exact absurd h (by decide)
      have hlt := leN_take_lt r hr W (by omega)
      have h64 : (256 : Nat) ^ W ≤ 256 ^ 8 := Nat.pow_le_pow_right (by decide) h8
      have hN := decN_W (b := b) (r := r) hW hp
      rw [hN, hE _ (by omega) hlt]
      have ht : leB (leN (r.take W)) W = r.take W := by
        have := leB_leN (r.take W) (hr.take W)
        rwa [List.length_take, Nat.min_eq_left (by omega)] at this
      refine ⟨?_, by omega⟩
      rw [ht]
      show b :: r = b :: (r.take W ++ r.drop (decW b))
      rw [hW, List.take_append_drop]
    by_cases h1 : b = 253
    · subst h1; exact big 2 rfl (by decide) (by decide) (fun n h1 h2 => encS_3 (by have : 253 ≤ n := h1; omega) (by omega))
    · by_cases h2 : b = 254
      · subst h2; exact big 4 rfl (by decide) (by decide) (fun n h1 h2 => by have h3 : 65536 ≤ n := h1; exact encS_5 (by omega) (by omega) (by omega))
      · by_cases h3 : b = 255
        · subst h3; exact big 8 rfl (by decide) (by decide) (fun n h1 h2 => by have h3 : 4294967296 ≤ n := h1; exact encS_9 (by omega) (by omega) (by omega))
        · have hW : decW b = 0 := by unfold decW; rw [if_neg h1, if_neg h2, if_neg h3]
          have hN : decN (b :: r) = b.toNat := by show (if decW b = 0 then b.toNat else _) = _; rw [if_pos hW]
          have hR : decR (b :: r) = r := by show r.drop (decW b) = r; rw [hW]; rfl
          rw [hN, hR, encS_1 (by omega)]
          refine ⟨?_, by omega⟩
          show b :: r = ((b.toNat : Nat) : Int) :: r
          congr 1; omega
theorem enc_inj {n m : Nat} {r s : List Int} (hn : n < 18446744073709551616) (hm : m < 18446744073709551616) (h : encS n ++ r = encS m ++ s) : n = m ∧ r = s := by
  obtain ⟨_, a1, a2⟩ := dec_enc hn r
  obtain ⟨_, b1, b2⟩ := dec_enc hm s
  rw [h] at a1 a2
  exact ⟨a1.symm.trans b1, a2.symm.trans b2⟩
/-- a text: bytes with their count ahead -/
def txtB (z : List Int) : List Int := encS z.length ++ z
theorem txtB_len (z : List Int) : z.length < (txtB z).length ∧ (txtB z).length ≤ z.length + 9 := by
  have := encS_ne z.length
  unfold txtB; rw [List.length_append]; omega
theorem txtB_byt {z : List Int} (h : Byt z) (hl : z.length < 18446744073709551616) : Byt (txtB z) := (encS_byt _ hl).app h
def rtE (bs : List Int) (most : Nat) : Int := if decE bs = 0 then (if most < decN bs then 4 else if (decR bs).length < decN bs then 50 else 0) else decE bs
def rtX (bs : List Int) : List Int := (decR bs).take (decN bs)
def rtR (bs : List Int) : List Int := (decR bs).drop (decN bs)
theorem rt_enc {z r : List Int} {most : Nat} (hz : z.length ≤ most) (hl : z.length < 18446744073709551616) : rtE (txtB z ++ r) most = 0 ∧ rtX (txtB z ++ r) = z ∧ rtR (txtB z ++ r) = r := by
  obtain ⟨h1, h2, h3⟩ := dec_enc hl (z ++ r)
  unfold rtE rtX rtR txtB
  rw [List.append_assoc, h1, h2, h3, if_pos rfl, if_neg (by omega), if_neg (by rw [List.length_append]; omega)]
  exact ⟨rfl, List.take_left, List.drop_left⟩
theorem enc_rt {bs : List Int} {most : Nat} (hb : Byt bs) (h : rtE bs most = 0) : bs = txtB (rtX bs) ++ rtR bs ∧ (rtX bs).length ≤ most := by
  unfold rtE at h
  by_cases h0 : decE bs = 0
  · rw [if_pos h0] at h
    by_cases h1 : most < decN bs
    · rw [if_pos h1] at h; exact absurd h (by decide)
    rw [if_neg h1] at h
    by_cases h2 : (decR bs).length < decN bs
    · rw [if_pos h2] at h; exact absurd h (by decide)
    obtain ⟨e, _⟩ := enc_dec hb h0
    have hl : (rtX bs).length = decN bs := by unfold rtX; rw [List.length_take, Nat.min_eq_left (by omega)]
    refine ⟨?_, by omega⟩
    unfold txtB
    rw [hl, List.append_assoc, show rtX bs ++ rtR bs = decR bs from List.take_append_drop _ _]
    exact e
  · rw [if_neg h0] at h; exact absurd h h0
theorem txt_inj {y z r s : List Int} (hy : y.length < 18446744073709551616) (hz : z.length < 18446744073709551616) (h : txtB y ++ r = txtB z ++ s) : y = z ∧ r = s := by
  unfold txtB at h
  rw [List.append_assoc, List.append_assoc] at h
  obtain ⟨e1, e2⟩ := enc_inj hy hz h
  exact List.append_inj e2 e1
/-- keys: bytes of a string -/
abbrev Key := List UInt8
def kb (k : Key) : List Int := k.map fun c => ((c.toNat : Nat) : Int)
def kOf (z : List Int) : Key := z.map fun x => UInt8.ofNat x.toNat
theorem kb_len (k : Key) : (kb k).length = k.length := by simp [kb]
theorem kb_byt (k : Key) : Byt (kb k) := fun y hy => by
  obtain ⟨c, _, rfl⟩ := List.mem_map.1 hy
  have := c.toNat_lt; omega
theorem kOf_kb (k : Key) : kOf (kb k) = k := by
  unfold kOf kb
  rw [List.map_map]
  have : ((fun x : Int => UInt8.ofNat x.toNat) ∘ fun c : UInt8 => ((c.toNat : Nat) : Int)) = id := by
    funext c; simp
  rw [this, List.map_id]
theorem kb_kOf {z : List Int} (h : Byt z) : kb (kOf z) = z := by
  unfold kOf kb
  rw [List.map_map]
  conv => rhs; rw [← List.map_id z]
  refine List.map_congr_left fun x hx => ?_
  have := h x hx
  show (((UInt8.ofNat x.toNat).toNat : Nat) : Int) = x
  rw [UInt8.toNat_ofNat']
  omega
theorem kb_inj {a b : Key} (h : kb a = kb b) : a = b := by rw [← kOf_kb a, ← kOf_kb b, h]
structure BatD where
  puts : List (Key × List Int)
  dels : List Key
def putB (p : Key × List Int) : List Int := txtB (kb p.1) ++ txtB p.2
def delB (k : Key) : List Int := txtB (kb k)
def batB (x : BatD) : List Int := encS x.puts.length ++ (x.puts.flatMap putB ++ (encS x.dels.length ++ x.dels.flatMap delB))
def fineK (k : Key) : Bool := decide (0 < k.length) && decide (k.length ≤ 100)
def finePut (p : Key × List Int) : Bool := fineK p.1 && decide (p.2.length ≤ 60000)
theorem fineK_iff {k : Key} : fineK k = true ↔ 0 < k.length ∧ k.length ≤ 100 := by simp [fineK]
theorem finePut_iff {p : Key × List Int} : finePut p = true ↔ (0 < p.1.length ∧ p.1.length ≤ 100) ∧ p.2.length ≤ 60000 := by simp [finePut, fineK]
/-- a batch can be -/
structure CanB (x : BatD) : Prop where
  puts : x.puts.length ≤ 20000
  dels : x.dels.length ≤ 20000
  fineP : ∀ p ∈ x.puts, finePut p = true
  fineD : ∀ k ∈ x.dels, fineK k = true
  len : (batB x).length ≤ 1048576
/-- its values are bytes -/
def BytV (l : List (Key × List Int)) : Prop := ∀ p ∈ l, Byt p.2
/-- a list of things of one kind, read one by one -/
def rdMany {α : Type} (f : List Int → Option (α × List Int)) : Nat → List Int → Option (List α × List Int)
  | 0, bs => some ([], bs)
  | n + 1, bs => (f bs).bind fun q => (rdMany f n q.2).map fun t => (q.1 :: t.1, t.2)
def rdKey (bs : List Int) : Option (Key × List Int) := if rtE bs 100 = 0 ∧ rtX bs ≠ [] then some (kOf (rtX bs), rtR bs) else none
def rdPut (bs : List Int) : Option ((Key × List Int) × List Int) := (rdKey bs).bind fun q => if rtE q.2 60000 = 0 then some ((q.1, rtX q.2), rtR q.2) else none
def rdCnt (bs : List Int) : Option (Nat × List Int) := if decE bs = 0 ∧ decN bs ≤ 20000 then some (decN bs, decR bs) else none
def rdBat (bs : List Int) : Option BatD := (rdCnt bs).bind fun c => (rdMany rdPut c.1 c.2).bind fun p => (rdCnt p.2).bind fun d => (rdMany rdKey d.1 d.2).bind fun k => if k.2 = [] then some ⟨p.1, k.1⟩ else none
theorem rdKey_iff {bs : List Int} (hb : Byt bs) (k : Key) (r : List Int) : rdKey bs = some (k, r) ↔ fineK k = true ∧ bs = delB k ++ r := by
  constructor
  · intro h
    unfold rdKey at h
    split at h
    · rename_i h1
      cases h
      obtain ⟨e, hl⟩ := enc_rt hb h1.1
      have hx : Byt (rtX bs) := by
        have : Byt (txtB (rtX bs) ++ rtR bs) := by rw [← e]; exact hb
        exact (this.left).right
      have hlen : (kOf (rtX bs)).length = (rtX bs).length := by simp [kOf]
      refine ⟨fineK_iff.2 ⟨?_, by omega⟩, by unfold delB; rw [kb_kOf hx]; exact e⟩
      rw [hlen]
      cases hc : rtX bs with
      | nil => exact absurd hc h1.2
      | cons a t => simp
    · cases h
  · rintro ⟨hf, rfl⟩
    obtain ⟨h0, h1⟩ := fineK_iff.1 hf
    obtain ⟨e1, e2, e3⟩ := rt_enc (z := kb k) (r := r) (most := 100) (by rw [kb_len]; exact h1) (by rw [kb_len]; omega)
    unfold rdKey delB
    rw [e1, e2, e3, if_pos ⟨rfl, fun h => by
      have := congrArg List.length h
      rw [kb_len] at this; simp at this; subst this; simp at h0⟩, kOf_kb]
theorem rdPut_iff {bs : List Int} (hb : Byt bs) (p : Key × List Int) (r : List Int) : rdPut bs = some (p, r) ↔ finePut p = true ∧ Byt p.2 ∧ bs = putB p ++ r := by
  constructor
  · intro h
    unfold rdPut at h
    cases hk : rdKey bs with
    | none => rw [hk] at h; cases h
    | some q =>
      rw [hk] at h
      obtain ⟨k, s⟩ := q
      obtain ⟨h1, h2⟩ := (rdKey_iff hb k s).1 hk
      have hs : Byt s := by rw [h2] at hb; exact hb.right
      simp only [Option.bind_some] at h
      split at h
      · rename_i h3
        cases h
        obtain ⟨e, hl⟩ := enc_rt hs h3
        have hx : Byt (rtX s) := by
          have : Byt (txtB (rtX s) ++ rtR s) := by rw [← e]; exact hs
          exact (this.left).right
        refine ⟨finePut_iff.2 ⟨fineK_iff.1 h1, hl⟩, hx, ?_⟩
        unfold putB
        rw [List.append_assoc, ← e]; exact h2
      · cases h
  · rintro ⟨hf, hx, rfl⟩
    obtain ⟨h0, h1⟩ := finePut_iff.1 hf
    have hk := (rdKey_iff hb p.1 (txtB p.2 ++ r)).2 ⟨fineK_iff.2 h0, by unfold putB delB; rw [List.append_assoc]⟩
    obtain ⟨e1, e2, e3⟩ := rt_enc (z := p.2) (r := r) (most := 60000) h1 (by omega)
    unfold rdPut
    rw [hk]
    simp only [Option.bind_some]
    rw [if_pos e1, e2, e3]
theorem rdMany_iff {α : Type} {f : List Int → Option (α × List Int)} {ok : α → Prop} {enc : α → List Int} (hf : ∀ bs, Byt bs → ∀ a r, f bs = some (a, r) ↔ ok a ∧ bs = enc a ++ r) :
    ∀ (n : Nat) (bs : List Int), Byt bs → ∀ l r, rdMany f n bs = some (l, r) ↔ l.length = n ∧ (∀ a ∈ l, ok a) ∧ bs = l.flatMap enc ++ r
  | 0, bs, hb, l, r => by
    constructor
    · intro h; cases h; exact ⟨rfl, (fun a ha => by cases ha), rfl⟩
    · rintro ⟨h1, _, h3⟩
      obtain rfl := List.eq_nil_of_length_eq_zero h1
      rw [h3]; rfl
  | n + 1, bs, hb, l, r => by
    show ((f bs).bind fun q => (rdMany f n q.2).map fun t => (q.1 :: t.1, t.2)) = some (l, r) ↔ _
    constructor
    · intro h
      cases hq : f bs with
      | none => rw [hq] at h; cases h
      | some q =>
        obtain ⟨a, s⟩ := q
        rw [hq] at h
        obtain ⟨h1, h2⟩ := (hf bs hb a s).1 hq
        have hs : Byt s := by rw [h2] at hb; exact hb.right
        simp only [Option.bind_some] at h
        cases ht : rdMany f n s with
        | none => rw [ht] at h; cases h
        | some t =>
          obtain ⟨t1, t2⟩ := t
          rw [ht] at h
          cases h
          obtain ⟨k1, k2, k3⟩ := (rdMany_iff hf n s hs t1 t2).1 ht
          refine ⟨by simp [k1], fun b hb' => ?_, ?_⟩
          · rcases List.mem_cons.1 hb' with rfl | hb'
            · exact h1
            · exact k2 b hb'
          · rw [List.flatMap_cons, List.append_assoc, ← k3]; exact h2
    · rintro ⟨h1, h2, h3⟩
      match l, h1, h2, h3 with
      | a :: t, h1, h2, h3 =>
        rw [List.flatMap_cons, List.append_assoc] at h3
        have hq := (hf bs hb a (t.flatMap enc ++ r)).2 ⟨h2 a (by simp), h3⟩
        have hs : Byt (t.flatMap enc ++ r) := by rw [h3] at hb; exact hb.right
        rw [hq]
        simp only [Option.bind_some]
        rw [(rdMany_iff hf n _ hs t r).2 ⟨by simpa using h1, fun b hb' => h2 b (List.mem_cons_of_mem _ hb'), rfl⟩]
        rfl
theorem rdCnt_iff {bs : List Int} (hb : Byt bs) (n : Nat) (r : List Int) : rdCnt bs = some (n, r) ↔ n ≤ 20000 ∧ bs = encS n ++ r := by
  constructor
  · intro h
    unfold rdCnt at h
    split at h
    · rename_i h1; cases h; exact ⟨h1.2, (enc_dec hb h1.1).1⟩
    · cases h
  · rintro ⟨h1, rfl⟩
    obtain ⟨e1, e2, e3⟩ := dec_enc (n := n) (by omega) r
    unfold rdCnt
    rw [e1, e2, e3, if_pos ⟨rfl, h1⟩]
theorem rdBat_iff {bs : List Int} (hb : Byt bs) (hl : bs.length ≤ 1048576) (x : BatD) : rdBat bs = some x ↔ CanB x ∧ BytV x.puts ∧ batB x = bs := by
  have hp := rdMany_iff (f := rdPut) (ok := fun p => finePut p = true ∧ Byt p.2) (enc := putB) (fun bs hb a r => by rw [rdPut_iff hb]; exact and_assoc.symm)
  have hk := rdMany_iff (f := rdKey) (ok := fun k => fineK k = true) (enc := delB) (fun bs hb a r => rdKey_iff hb a r)
  constructor
  · intro h
    unfold rdBat at h
    cases h1 : rdCnt bs with
    | none => rw [h1] at h; cases h
    | some c =>
      obtain ⟨n, b1⟩ := c
      obtain ⟨n1, e1⟩ := (rdCnt_iff hb n b1).1 h1
      have hb1 : Byt b1 := by rw [e1] at hb; exact hb.right
      rw [h1] at h; simp only [Option.bind_some] at h
      cases h2 : rdMany rdPut n b1 with
      | none => rw [h2] at h; cases h
      | some p =>
        obtain ⟨ps, b2⟩ := p
        obtain ⟨p1, p2, e2⟩ := (hp n b1 hb1 ps b2).1 h2
        have hb2 : Byt b2 := by rw [e2] at hb1; exact hb1.right
        rw [h2] at h; simp only [Option.bind_some] at h
        cases h3 : rdCnt b2 with
        | none => rw [h3] at h; cases h
        | some d =>
          obtain ⟨m, b3⟩ := d
          obtain ⟨m1, e3⟩ := (rdCnt_iff hb2 m b3).1 h3
          have hb3 : Byt b3 := by rw [e3] at hb2; exact hb2.right
          rw [h3] at h; simp only [Option.bind_some] at h
          cases h4 : rdMany rdKey m b3 with
          | none => rw [h4] at h; cases h
          | some k =>
            obtain ⟨ks, b4⟩ := k
            obtain ⟨q1, q2, e4⟩ := (hk m b3 hb3 ks b4).1 h4
            rw [h4] at h; simp only [Option.bind_some] at h
            split at h
            · rename_i h5
              cases h
              have h5' : b4 = [] := h5
              have e : batB ⟨ps, ks⟩ = bs := by
                unfold batB
                simp only []
                rw [p1, q1, e1, e2, e3, e4, h5', List.append_nil]
              exact ⟨⟨by show ps.length ≤ 20000; omega, by show ks.length ≤ 20000; omega, fun p hp => (p2 p hp).1, q2, by rw [e]; exact hl⟩, fun p hp => (p2 p hp).2, e⟩
            · cases h
  · rintro ⟨hc, hv, rfl⟩
    obtain ⟨ps, ks⟩ := x
    unfold rdBat
    have e : batB ⟨ps, ks⟩ = encS ps.length ++ (ps.flatMap putB ++ (encS ks.length ++ ks.flatMap delB)) := rfl
    rw [e] at hb ⊢
    have hb1 := hb.right
    have hb2 := hb1.right
    have hb3 := hb2.right
    rw [(rdCnt_iff hb ps.length _).2 ⟨hc.puts, rfl⟩]
    simp only [Option.bind_some]
    rw [(hp ps.length _ hb1 ps _).2 ⟨rfl, fun p hp => ⟨hc.fineP p hp, hv p hp⟩, rfl⟩]
    simp only [Option.bind_some]
    rw [(rdCnt_iff hb2 ks.length _).2 ⟨hc.dels, rfl⟩]
    simp only [Option.bind_some]
    rw [(hk ks.length _ hb3 ks []).2 ⟨rfl, hc.fineD, by rw [List.append_nil]⟩]
    simp only [Option.bind_some, if_true]
theorem putB_byt {p : Key × List Int} (h : Byt p.2) (h1 : finePut p = true) : Byt (putB p) := by
  obtain ⟨⟨_, h2⟩, h3⟩ := finePut_iff.1 h1
  exact (txtB_byt (kb_byt _) (by rw [kb_len]; omega)).app (txtB_byt h (by omega))
theorem flat_byt {α : Type} {f : α → List Int} : ∀ {l : List α}, (∀ a ∈ l, Byt (f a)) → Byt (l.flatMap f)
  | [], _ => Byt.nil
  | a :: t, h => by rw [List.flatMap_cons]; exact (h a (by simp)).app (flat_byt fun b hb => h b (List.mem_cons_of_mem _ hb))
theorem batB_byt {x : BatD} (h : CanB x) (hv : BytV x.puts) : Byt (batB x) :=
  (encS_byt _ (by have := h.puts; omega)).app ((flat_byt fun p hp => putB_byt (hv p hp) (h.fineP p hp)).app ((encS_byt _ (by have := h.dels; omega)).app
    (flat_byt fun k hk => txtB_byt (kb_byt _) (by have := (fineK_iff.1 (h.fineD k hk)).2; rw [kb_len]; omega))))
theorem batB_inj {x y : BatD} (hx : CanB x) (hy : CanB y) (vx : BytV x.puts) (vy : BytV y.puts) (h : batB x = batB y) : x = y := by
  have h1 := (rdBat_iff (batB_byt hx vx) hx.len x).2 ⟨hx, vx, rfl⟩
  have h2 := (rdBat_iff (batB_byt hx vx) hx.len y).2 ⟨hy, vy, h.symm⟩
  rw [h1] at h2
  exact Option.some.inj h2
end Go.Proofs.YtbjbjgfjaopibaaDoor
end

section
/- Maps keyed by int, told by a function. No program in sight. -/
namespace Go.Proofs.YtbjbjgfjaopibaaDoor
open Go Go.RowKit Go.Maps Go.ChangeMaps

def RV (v : Value) : Option (DataW Value × List MemPlace) := some (.held v, [])
/-- block b is a map keyed by int of n entries; f tells what is at a key -/
def IMap (P : Program) (k : TypeId) (w : World) (b : Nat) (f : Int → Option Value) (n : Nat) : Prop :=
  ∃ D : DataW Value, w.ownsMap P k RV b n D ∧ Maps.size D = n ∧ ∀ x, (Lit.int .i64 x).wf = true → Maps.has D (.int .i64 x) = (f x).isSome ∧ ∀ v, f x = some v → ∀ z, D.atKey (.int .i64 x) z = .held v
section
variable {P : Program} {k : TypeId} {w w' : World} {b n : Nat} {f : Int → Option Value} {D : DataW Value}
theorem ownsMap_tight (h : w.ownsMap P k RV b n D) : w.ownsMap P k RV b (Maps.size D) D := by
  obtain ⟨es, clock, hb, F, hs, rfl⟩ := h
  exact ⟨es, clock, hb, F, by simp [Maps.size, length_sorted], rfl⟩
theorem IMap.made (w : World) (P : Program) (k : TypeId) : IMap P k (w.alloc (.map #[] 0)) w.heap.size (fun _ => none) 0 :=
  ⟨_, World.ownsMap_made w P k RV, rfl, fun x _ => ⟨rfl, fun v hv => by cases hv⟩⟩
theorem IMap.lt (h : IMap P k w b f n) : b < w.heap.size := by obtain ⟨D, h1, _⟩ := h; exact h1.lt
theorem IMap.keep {X : Nat → Prop} (h : IMap P k w b f n) (hk : Keep X w w') (hn : ¬ X b) : IMap P k w' b f n := by
  obtain ⟨D, h1, h2⟩ := h
  have hl := h1.lt
  obtain ⟨es, clock, hb, r⟩ := h1
  exact ⟨D, ⟨es, clock, (hk.block b hl hn).trans hb, r⟩, h2⟩
theorem IMap.drew (h : IMap P k w b f n) : IMap P k w.drew b f n := h
theorem RV_inv {v : Value} {d : DataW Value} {ps : List MemPlace} (h : RV v = some (d, ps)) : d = .held v := by
  simp [RV] at h; exact h.1.symm
theorem keyLit (hk : P.underlying k = some (.int .i64)) {x : Int} (hx : (Lit.int .i64 x).wf = true) : keyOf P k (.int .i64 x) = some (.int .i64 x) := keyOf_int_mk hk hx
theorem IMap.at (h : IMap P k w b f n) {x : Int} (hx : (Lit.int .i64 x).wf = true) : ∃ D : DataW Value, w.ownsMap P k RV b n D ∧ (∀ z, D.atKey (.int .i64 x) (.held z) = .held ((f x).getD z)) ∧ Maps.has D (.int .i64 x) = (f x).isSome := by
  obtain ⟨D, h1, h2, h3⟩ := h
  obtain ⟨e1, e2⟩ := h3 x hx
  refine ⟨D, h1, fun z => ?_, e1⟩
  cases hf : f x with
  | none =>
    rw [hf] at e1
    exact atKey_of_not_has e1 _
  | some v => exact e2 v hf _
/-- 'm[k]' -/
theorem IMap.look (h : IMap P k w b f n) {t e : TypeId} (hk : P.underlying k = some (.int .i64)) (ht : P.underlying t = some (.map k e)) {z : Value} (hz : (zeroValue e).run P w = .ok z w) {x : Int} (hx : (Lit.int .i64 x).wf = true) :
    (Instr.lookup t (.map (some b)) (.int .i64 x) false).run P w = .ok ((f x).getD z) w := by
  obtain ⟨D, h1, h2, _⟩ := h.at hx
  obtain ⟨v, ps, hrun, hv⟩ := h1.lookup (int_keyed hk) ht hz (R := RV) (zd := .held z) (zp := []) rfl (keyLit hk hx)
  have e1 := RV_inv hv
  rw [h2 z] at e1
  rw [hrun]
  injection e1 with e1
  rw [e1]
/-- 'v, ok := m[k]' -/
theorem IMap.lookOk (h : IMap P k w b f n) {t e : TypeId} (hk : P.underlying k = some (.int .i64)) (ht : P.underlying t = some (.map k e)) {z : Value} (hz : (zeroValue e).run P w = .ok z w) {x : Int} (hx : (Lit.int .i64 x).wf = true) :
    (Instr.lookup t (.map (some b)) (.int .i64 x) true).run P w = .ok (.tuple #[(f x).getD z, .bool (f x).isSome]) w := by
  obtain ⟨D, h1, h2, h3⟩ := h.at hx
  obtain ⟨v, ps, hrun, hv⟩ := h1.look_ok (int_keyed hk) ht hz (R := RV) (zd := .held z) (zp := []) rfl (keyLit hk hx)
  have e1 := RV_inv hv
  rw [h2 z] at e1
  rw [hrun, h3]
  injection e1 with e1
  rw [e1]
/-- 'len(m)' -/
theorem IMap.len (h : IMap P k w b f n) {t e : TypeId} (ht : P.underlying t = some (.map k e)) (ty : TypeId) : (Builtin.len_ #[t] ty #[.map (some b)]).run P w = .ok (.int .i64 (n : Int)) w := by
  obtain ⟨D, h1, h2, _⟩ := h
  rw [h1.len ht ty, h2]
theorem Keep.of_turned (h : w.mapTurned w' b) : Keep (fun k => k = b) w w' := Keep.of_grown h.grown (fun g hg => by cases hg; rfl)
theorem lit_ne {x y : Int} (h : y ≠ x) : (Lit.int .i64 y) ≠ (Lit.int .i64 x) := fun e => h (by injection e)
/-- 'm[k] = v' -/
theorem IMap.store (h : IMap P k w b f n) {t e : TypeId} (hk : P.underlying k = some (.int .i64)) (ht : P.underlying t = some (.map k e)) (hn : n < maxLen) {x : Int} (hx : (Lit.int .i64 x).wf = true) (v : Value) :
    ∃ w', (Instr.mapUpdate t (.map (some b)) (.int .i64 x) v).run P w = .ok () w' ∧ IMap P k w' b (fun y => if y = x then some v else f y) (if (f x).isSome then n else n + 1) ∧ Keep (fun k => k = b) w w' := by
  obtain ⟨D, h1, h2, h3⟩ := h
  obtain ⟨w1, hrun, r1, r2⟩ := h1.store (int_keyed hk) ht hn (R := RV) (d := .held v) (ps := []) (keyLit hk hx) rfl
  have hsz := size_put (k := .int .i64 x) (h1.tidy (int_keyed hk)) (.held v : DataW Value)
  rw [(h3 x hx).1, h2] at hsz
  refine ⟨w1, hrun, ⟨D.put (.int .i64 x) (.held v), ?_, hsz, fun y hy => ?_⟩, Keep.of_turned r2⟩
  · have := ownsMap_tight r1
    rw [hsz] at this
    exact this
  · by_cases hyx : y = x
    · subst hyx
      simp only [if_true]
      refine ⟨has_put_same h1.isMap (show WideAt.IsKeyLit (.int .i64 y) from trivial) _, fun v' hv' z => ?_⟩
      cases hv'
      exact atKey_put_same h1.isMap (show WideAt.IsKeyLit (.int .i64 y) from trivial) _ _
    · simp only [if_neg hyx]
      refine ⟨(has_put_other (lit_ne hyx) _).trans (h3 y hy).1, fun v' hv' z => (atKey_put_other (lit_ne hyx) _ _).trans ((h3 y hy).2 v' hv' z)⟩
/-- 'delete(m, k)' -/
theorem IMap.drop (h : IMap P k w b f n) {t e : TypeId} (hk : P.underlying k = some (.int .i64)) (ht : P.underlying t = some (.map k e)) {x : Int} (hx : (Lit.int .i64 x).wf = true) (ty : TypeId) :
    ∃ w', (Builtin.delete_ #[t, k] ty #[.map (some b), .int .i64 x]).run P w = .ok (.tuple #[]) w' ∧ IMap P k w' b (fun y => if y = x then none else f y) (if (f x).isSome then n - 1 else n) ∧ Keep (fun k => k = b) w w' := by
  obtain ⟨D, h1, h2, h3⟩ := h
  obtain ⟨w1, hrun, r1, r2⟩ := h1.drop (int_keyed hk) ht (keyLit hk hx) ty
  have hsz := size_del (k := .int .i64 x) (h1.tidy (int_keyed hk))
  rw [(h3 x hx).1, h2] at hsz
  have hsz2 : Maps.size (D.del (.int .i64 x)) = if (f x).isSome then n - 1 else n := by
    cases hf : (f x).isSome <;> rw [hf] at hsz <;> simp at hsz ⊢ <;> omega
  refine ⟨w1, hrun, ⟨D.del (.int .i64 x), ?_, hsz2, fun y hy => ?_⟩, Keep.of_turned r2⟩
  · have := ownsMap_tight r1
    rw [hsz2] at this
    exact this
  · by_cases hyx : y = x
    · subst hyx
      simp only [if_true]
      exact ⟨has_del_same, fun v' hv' => by cases hv'⟩
    · simp only [if_neg hyx]
      refine ⟨(has_del_other (lit_ne hyx)).trans (h3 y hy).1, fun v' hv' z => (atKey_del_other (lit_ne hyx) _).trans ((h3 y hy).2 v' hv' z)⟩
end
/-- 'build' at the list of a region's operations, once its run is known -/
theorem wpl_build {P : Program} {w : World} {ops : Array Oper} {rest : List Oper} {o : Oper} {a : Act} {Q : Exit → Act → World → Prop} (hgd : o.guard = none) (t : TypeId) (parts : Array (Nat × Operand)) (ho : o.op = .build t parts) {ps : Array (Nat × Value)} {v : Value}
    (hp : (parts.map fun (i, x) => (i, a.eval x)) = ps) (hrun : (Instr.build t ps).run P w = .ok v w) (h : wpList P ops Q rest (a.put o.dst v) w) : wpList P ops Q (o :: rest) a w := by
  refine wpList_plain hgd fun K hK' => ?_
  unfold Oper.wp
  subst hp
  simp only [execOp, ho, hrun, Sem.run_bind, Sem.run_pure, Result.andThen_ok]
  exact hK' _ _ h
theorem wpl_makeMap {P : Program} {w : World} {ops : Array Oper} {rest : List Oper} {o : Oper} {a : Act} {Q : Exit → Act → World → Prop} (hgd : o.guard = none) (t : TypeId) (ho : o.op = .makeMap t none)
    (h : wpList P ops Q rest (a.put o.dst (.map (some w.heap.size))) (w.alloc (.map #[] 0))) : wpList P ops Q (o :: rest) a w := by
  refine wpList_plain hgd fun K hK' => ?_
  have hr := @run_makeMap P t w
  unfold Oper.wp
  simp [execOp, ho, hr, Result.andThen]
  exact hK' _ _ h
theorem setCells_alloc (w : World) (t : TypeId) : ∀ (vs pre post : List Value), post.length = vs.length → (w.alloc (.cells (pre ++ post).toArray t)).setCells w.heap.size pre.length vs = w.alloc (.cells (pre ++ vs).toArray t)
  | [], pre, post, h => by
    obtain rfl : post = [] := List.length_eq_zero_iff.1 h
    rfl
  | v :: r, pre, post, h => by
    match post, h with
    | p :: post, h =>
      have e : (pre ++ p :: post).toArray.setIfInBounds pre.length v = ((pre ++ [v]) ++ post).toArray := by simp
      have ih := setCells_alloc w t r (pre ++ [v]) post (by simpa using h)
      rw [World.setCells, World.setCell_alloc_new, e]
      simpa using ih
/-- a whole value stored into a new block -/
theorem store_new {P : Program} (w : World) (t : TypeId) (zs vs : Array Value) (hs : zs.size = vs.size) (h1 : vs.all (·.oneCell') = true) :
    (storeCells ⟨w.heap.size, 0, none⟩ vs.toList).run P (w.alloc (.cells zs t)) = .ok () (w.alloc (.cells vs t)) := by
  have hb := Blk.new w zs t
  have h := run_storeCells_cells (P := P) w.heap.size 0 vs.toList 0 (w.alloc (.cells zs t)) (fun j hj => by rw [hb.cell]; simp at hj ⊢; omega) (fun j hj => hb.free _)
    (fun v hv => (Array.all_eq_true_iff_forall_mem.1 h1) v (by simpa using hv))
  rw [h]
  have e := setCells_alloc w t vs.toList [] zs.toList (by simp [hs])
  simpa using e
end Go.Proofs.YtbjbjgfjaopibaaDoor
end

section
/- Opening a law's arguments: arrays of integers by value. -/
namespace Go.Proofs.YtbjbjgfjaopibaaDoor
open Go.ChangeShapes Go.WideShapes Go.ChangeAt Go.RowKit

theorem Tryd.own : ownKnob Tryd.prog.godebug = none := by kernel_rfl
theorem Tryd.laidOut : laidOutB Tryd.prog = true := by kernel_rfl

section
variable {H : Type} {enc : TypeId × Value → H} {P : Program} {w : World} {base : Nat} {spare : Nat → Bool} {held : Bool}
/-- AN ARRAY OF INTEGERS BY VALUE -/
theorem open_arr {r : Reach} {b0 : Nat} {t e : TypeId} {n : Nat} {k : IntKind} {v : Value} {d : DataW H} {p : List MemPlace} (ht : P.underlying t = some (.array n e)) (he : P.underlying e = some (.int k))
    (hce : P.cellsOf e = 1) (hct : P.cellsOf t = n) (hv : Value.okWide P w r b0 t v) (h : DataW.Trod enc P w base spare held t v d p) :
    ∃ f : Nat → Int, v = .agg ((List.range n).map fun i => .int k (f i)).toArray ∧ ∀ i, i < n → (Lit.int k (f i)).wf = true := by
  obtain ⟨cs, rfl, hs, _⟩ : ∃ cs, v = .agg cs ∧ cs.size = P.cellsOf t ∧ Row.okWide P w r b0 t cs := by
    unfold Value.okWide at hv; rw [ht] at hv; exact hv
  obtain ⟨fuel, hf⟩ := h
  obtain ⟨xs, m, _, _, hl, hx, hi⟩ := DataW.trod_array ht hf
  rw [hce] at hi
  rw [hct] at hs
  have key : ∀ i, i < n → ∃ z, cs[i]? = some (.int k z) ∧ (Lit.int k z).wf = true := by
    intro i hlt
    have h1 := hi i hlt
    rw [Nat.mul_one] at h1
    obtain ⟨x, hxi⟩ : ∃ x, xs[i]? = some x := ⟨xs[i]'(by omega), List.getElem?_eq_getElem (by omega)⟩
    rw [hxi] at h1
    have hc : cs[i]? = some (cs[i]'(by omega)) := Array.getElem?_eq_getElem (by omega)
    have h2 : ((Value.agg cs).cells.toList.drop i).take 1 = [cs[i]'(by omega)] := by
      simp [Value.cells, List.take_one, hc]
    rw [h2] at h1
    obtain ⟨z, e0, _, wz⟩ := DataW.trod_int he h1
    refine ⟨z, ?_, wz⟩
    rw [hc]
    simp at e0
    rw [e0]
  refine ⟨fun i => match cs[i]? with | some (.int _ z) => z | _ => 0, ?_, ?_⟩
  · congr 1
    apply Array.ext
    · simp [hs]
    · intro i h1 h2
      obtain ⟨z, hz, _⟩ := key i (by omega)
      simp [hz]
      rw [Array.getElem?_eq_getElem h1] at hz
      exact Option.some.inj hz
  · intro i hlt
    obtain ⟨z, hz, wz⟩ := key i hlt
    simpa [hz] using wz
end

end Go.Proofs.YtbjbjgfjaopibaaDoor
end

section
/- '==' on two arrays of integers. -/
namespace Go.Proofs.YtbjbjgfjaopibaaDoor
open Go

theorem run_equalIn_ints {P : Program} (d : Nat) (t e : TypeId) (len : Nat) (k k' : IntKind) (xs ys : Array Value) (f g : Nat → Int) (w : World)
    (ht : P.underlying t = some (.array len e)) (he : P.underlying e = some (.int k')) (ha : ∀ w, (isAgg e).run P w = .ok false w) (hs : ∀ w, (Go.sizeOf e).run P w = .ok 1 w)
    (hx : ∀ i, i < len → xs[i]? = some (.int k (f i))) (hy : ∀ i, i < len → ys[i]? = some (.int k (g i))) :
    (Op.equalIn (d + 2) t (.agg xs) (.agg ys)).run P w = .ok ((List.range len).all fun i => f i == g i) w := by
  have px : ∀ i, i < len → ∀ w, (Go.part e xs i).run P w = .ok (.int k (f i)) w := by
    intro i hi w; simp [Go.part, Sem.run_bind, ha, hx i hi]
  have py : ∀ i, i < len → ∀ w, (Go.part e ys i).run P w = .ok (.int k (g i)) w := by
    intro i hi w; simp [Go.part, Sem.run_bind, ha, hy i hi]
  unfold Op.equalIn
  simp only [Sem.run_bind, run_underlying ht, Result.andThen_ok, hs, Nat.mul_one]
  rw [Std.Legacy.Range.forIn_eq_forIn_range']
  simp only [Std.Legacy.Range.size, Nat.sub_zero, Nat.add_sub_cancel, Nat.div_one]
  have key : ∀ (n s : Nat) (w : World), s + n ≤ len → Sem.run P (forIn (m := Sem) (List.range' s n) ((none, ()) : Option Bool × Unit) (fun i (_ : Option Bool × Unit) => do
            let __do_lift ← Go.part e xs i
            let __do_lift_1 ← Go.part e ys i
            let __do_lift ← Op.equalIn (d + 1) e __do_lift __do_lift_1
            if (!__do_lift) = true then pure (ForInStep.done (some false, ())) else pure (ForInStep.yield (none, ())))) w =
      .ok (if (List.range' s n).all fun i => f i == g i then (none, ()) else (some false, ())) w := by
    intro n
    induction n with
    | zero => intro s w _; simp
    | succ n ih =>
      intro s w h
      rw [List.range'_succ, List.forIn_cons, List.all_cons]
      simp only [Sem.run_bind, px s (by omega), py s (by omega), Result.andThen_ok, run_equalIn_int w d e k k' _ _ he]
      by_cases hfg : f s = g s
      · simp only [hfg, beq_self_eq_true, Bool.not_true, Bool.false_eq_true, if_false, Sem.run_pure, Result.andThen_ok, Bool.true_and]
        exact ih (s + 1) w (by omega)
      · simp [hfg]
  rw [key len 0 w (by omega), Result.andThen_ok, List.range_eq_range']
  cases (List.range' 0 len).all (fun i => f i == g i) <;> rfl

/-- '==' on two arrays of integers -/
theorem run_eql_ints {P : Program} (t e : TypeId) (len : Nat) (k k' : IntKind) (xs ys : Array Value) (f g : Nat → Int) (w : World)
    (ht : P.underlying t = some (.array len e)) (he : P.underlying e = some (.int k')) (ha : ∀ w, (isAgg e).run P w = .ok false w) (hs : ∀ w, (Go.sizeOf e).run P w = .ok 1 w)
    (hx : ∀ i, i < len → xs[i]? = some (.int k (f i))) (hy : ∀ i, i < len → ys[i]? = some (.int k (g i))) :
    (binOp .eql t (.agg xs) (.agg ys)).run P w = .ok (.bool ((List.range len).all fun i => f i == g i)) w := by
  rw [run_eql_struct, run_equalIn_ints 9998 t e len k k' xs ys f g w ht he ha hs hx hy]; rfl
theorem run_neq_ints {P : Program} (t e : TypeId) (len : Nat) (k k' : IntKind) (xs ys : Array Value) (f g : Nat → Int) (w : World)
    (ht : P.underlying t = some (.array len e)) (he : P.underlying e = some (.int k')) (ha : ∀ w, (isAgg e).run P w = .ok false w) (hs : ∀ w, (Go.sizeOf e).run P w = .ok 1 w)
    (hx : ∀ i, i < len → xs[i]? = some (.int k (f i))) (hy : ∀ i, i < len → ys[i]? = some (.int k (g i))) :
    (binOp .neq t (.agg xs) (.agg ys)).run P w = .ok (.bool (!((List.range len).all fun i => f i == g i))) w := by
  rw [run_neq_struct, run_equalIn_ints 9998 t e len k k' xs ys f g w ht he ha hs hx hy]; rfl
end Go.Proofs.YtbjbjgfjaopibaaDoor
end
