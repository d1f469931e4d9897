import Derived.Test.YtgedpgdefafofaaDoorVh4
import Derived.Test.YtgedpgdefafofaaDoorVh2
import Derived.Test.YtgedpgdefafofaaDoorVh3
import Derived.Maps.OwnSet
import Derived.Test.YtgedpgdefafofaaDoorRows
import Derived.ProofKit
import Derived.OpenShut
import Derived.ShutString
import Derived.WalkKit
import Derived.Laws.StructEq
section
/- Counts read: size.width, cut, Decode. -/
namespace Go.Proofs.YtgedpgdefafofaaDoor
open Go Go.RowKit
set_option linter.unusedSimpArgs false
set_option linter.unusedVariables false
set_option maxRecDepth 100000

/-- how many bytes stand behind a count's first one, and the least number that needs them -/
def decW (b : Int) : Nat := if b = 253 then 2 else if b = 254 then 4 else if b = 255 then 8 else 0
def decL (b : Int) : Nat := if b = 253 then 253 else if b = 254 then 65536 else if b = 255 then 4294967296 else 0
def decE (bs : List Int) : Int := match bs with | [] => 50 | b :: r => if decW b = 0 then 0 else if r.length < decW b then 50 else if leN (r.take (decW b)) < decL b then 51 else 0
def decN (bs : List Int) : Nat := match bs with | [] => 0 | b :: r => if decW b = 0 then b.toNat else leN (r.take (decW b))
def decR (bs : List Int) : List Int := match bs with | [] => [] | b :: r => r.drop (decW b)
theorem below_drewN (w : World) : ∀ n, Below w.heap.size w (w.drewN n) := fun n => ⟨rfl, rfl, rfl, Nat.le_refl _, fun _ _ => rfl⟩
theorem decW_le (b : Int) : decW b ≤ 8 := by unfold decW; split <;> (try split) <;> (try split) <;> omega
theorem pwidth (b : Int) (w : World) : Calls Tryd.prog 86 #[.int .u8 b] w fun e w' => e = .returned (.tuple #[.int .i64 (decW b : Int), .int .u64 (decL b : Int)]) ∧ w = w' := by
  by_cases h1 : b = 253
  · subst h1
    go_enter Tryd.func86, Tryd.ntmps86
    go_wp2
    go_ret2
    exact ⟨rfl, rfl⟩
  · by_cases h2 : b = 254
    · subst h2
      go_enter Tryd.func86, Tryd.ntmps86
      go_wp2
      go_ret2
      exact ⟨rfl, rfl⟩
    · by_cases h3 : b = 255
      · subst h3
        go_enter Tryd.func86, Tryd.ntmps86
        go_wp2
        go_ret2
        exact ⟨rfl, rfl⟩
      · have e1 : (b == 253) = false := beq_false_of_ne h1
        have e2 : (b == 254) = false := beq_false_of_ne h2
        have e3 : (b == 255) = false := beq_false_of_ne h3
        have HW := Lib.hid (show decW b = 0 ∧ decL b = 0 from ⟨by unfold decW; rw [if_neg h1, if_neg h2, if_neg h3], by unfold decL; rw [if_neg h1, if_neg h2, if_neg h3]⟩)
        clear h1 h2 h3
        go_enter Tryd.func86, Tryd.ntmps86
        go_wp2
        go_ret2
        exact ⟨by rw [HW.out.1, HW.out.2]; rfl, rfl⟩
/-- what is cut: bytes that stand behind, in the same memory -/
def CutAt (w : World) (v : Value) (xs : List Int) : Prop := ∃ p c, v = .slice p xs.length c ∧ Lib.BytesIn w p xs.length xs ∧ xs.length ≤ c ∧ (c ≤ 9223372036854775807 ∧ xs.length ≤ 140737488355328) ∧ ∃ a, p = some a
theorem bytes_in_drop {w : World} {b o n : Nat} {xs : List Int} (hc : ∀ i, i < n → w.cell? ⟨b, o + i, none⟩ = some (.int .u8 (xs.getD i 0))) (hn : xs.length = n) (k : Nat) (p : Option Addr) (hp : k < n → p = some ⟨b, o + k, none⟩) : Lib.BytesIn w p (xs.drop k).length (xs.drop k) := fun h0 => by
  rw [List.length_drop] at h0
  refine ⟨b, o + k, hp (by omega), fun i hi => ?_⟩
  rw [List.length_drop] at hi
  rw [Nat.add_assoc, hc (k + i) (by omega)]
  simp [List.getD_eq_getElem?_getD, List.getElem?_drop]
/-- what 'cut' answers -/
def CutPost (bs : List Int) (w : World) (e : Ending) (w' : World) : Prop :=
  ∃ (x : Int) (v : Value), e = .returned (.tuple #[.int .u64 x, v, .int .i64 (decE bs)]) ∧ Below w.heap.size w w' ∧ (decE bs = 0 → x = (decN bs : Int) ∧ CutAt w' v (decR bs)) ∧ (decE bs ≠ 0 → x = 0 ∧ v = .slice none 0 0)
theorem CutPost.err {bs : List Int} {w w' : World} {E : Int} (h : decE bs = E) (hE : E ≠ 0) (hb : Below w.heap.size w w') : CutPost bs w (.returned (.tuple #[.int .u64 0, .slice none 0 0, .int .i64 E])) w' :=
  ⟨0, _, by rw [h], hb, fun h0 => absurd (h.symm.trans h0) hE, fun _ => ⟨rfl, rfl⟩⟩
theorem CutPost.ok {bs : List Int} {w w' : World} {x : Int} {v : Value} (h : decE bs = 0) (hx : x = (decN bs : Int)) (hv : CutAt w' v (decR bs)) (hb : Below w.heap.size w w') : CutPost bs w (.returned (.tuple #[.int .u64 x, v, .int .i64 0])) w' :=
  ⟨x, v, by rw [h], hb, fun _ => ⟨hx, hv⟩, fun h1 => absurd h h1⟩
theorem pcut_nil (q : Option Addr) (c : Nat) (w : World) : Calls Tryd.prog 63 #[.slice q 0 c] w (CutPost [] w) := by
  go_enter Tryd.func63, Tryd.ntmps63
  go_wp2
  exact bodyPost_ret (results_tmp3 Tryd.results63 _ _ _) rfl (CutPost.err rfl (by decide) (Below.refl _ _))
set_option maxHeartbeats 3200000 in
theorem pcut0 (b : Int) (r : List Int) (pb po c : Nat) (w : World) (hc : ∀ i, i < r.length + 1 → w.cell? ⟨pb, po + i, none⟩ = some (.int .u8 ((b :: r).getD i 0))) (hr : 0 ≤ b ∧ b ≤ 255) (hlc : r.length + 1 ≤ c) (hcm : c ≤ 9223372036854775807) (hl47 : r.length + 1 ≤ 140737488355328) (hW : decW b = 0) :
    Calls Tryd.prog 63 #[.slice (some ⟨pb, po, none⟩) (r.length + 1) c] w (CutPost (b :: r) w) := by
  have PW := Lib.hid (pwidth b w)
  rw [hW] at PW
  have c0 := hc 0 (by omega)
  rw [List.getD_cons_zero, Nat.add_zero] at c0
  have hbw : IntKind.u64.wrap b = b := IntWalk.u64_in _ (by omega)
  have HE := Lib.hid (show decE (b :: r) = 0 from if_pos hW)
  have HN := Lib.hid (show b = (decN (b :: r) : Int) from by unfold decN; simp only; rw [if_pos hW]; omega)
  have HR := Lib.hid (show ∀ m p, (1 < r.length + 1 → p = some ⟨pb, po + 1, none⟩) → (∃ a, p = some a) → CutAt (w.drewN m) (.slice p r.length (c - 1)) (decR (b :: r)) from fun m p hp ha => ⟨p, c - 1, by unfold decR; simp only; rw [hW, List.drop_zero], by
    have e : decR (b :: r) = (b :: r).drop 1 := by unfold decR; simp only; rw [hW]; rfl
    rw [e]
    exact bytes_in_drop (w := w.drewN m) hc (by simp) 1 p hp, by unfold decR; simp only; rw [hW, List.drop_zero]; omega, ⟨by omega, by unfold decR; simp only; rw [hW, List.drop_zero]; omega⟩, ha⟩)
  clear hc hW
  by_cases h1 : c = 1
  · have hr0 : r.length = 0 := by omega
    generalize r.length = N at *
    subst hr0
    subst h1
    go_enter Tryd.func63, Tryd.ntmps63
    go_wp2_with fail
    refine PW.out.mono ?_
    rintro e w1 ⟨rfl, rfl⟩
    go_wp2
    go_quiet (fail)
    go_wp2
    exact bodyPost_ret (results_tmp3 Tryd.results63 _ _ _) rfl (CutPost.ok HE.out HN.out (HR.out _ _ (fun h => by omega) ⟨_, rfl⟩) (below_drewN w _))
  · have hcn : ¬ c = 1 := h1
    clear h1
    obtain ⟨N, hN⟩ : ∃ N, N = r.length := ⟨_, rfl⟩
    rw [← hN] at hlc HR ⊢
    have HNN := Lib.hid hN
    clear hN
    have k1 : (1 : Int) ≤ (N : Int) + 1 := by omega
    have k2 : (N : Int) + 1 ≤ (c : Int) := by omega
    have k3 : 1 ≤ N + 1 := by omega
    go_enter Tryd.func63, Tryd.ntmps63
    go_wp2_with fail
    refine PW.out.mono ?_
    rintro e w1 ⟨rfl, rfl⟩
    go_upto_region 5 with fail
    refine wp_region_held_drew (S := fun w' => w' = w.drew) (by kernel_rfl) rfl (fun hS => ?_)
    refine wpAnyH_take (i := 0) (oi := ⟨_, _, _, _, _, _⟩) (v := ?_) rfl (by kernel_rfl) (by kernel_rfl) (by kernel_rfl) (fun _ _ _ h => h) (Or.inl ⟨by rfl, ?_⟩) hS ?_
    rotate_left
    · intro w0 hs; subst hs; go_simp; try (with_reducible rfl)
    try simp only [Act.put, List.setIfInBounds_toArray, List.set_cons_zero, List.set_cons_succ]
    refine wpAnyH_take (i := 1) (oi := ⟨_, _, _, _, _, _⟩) (v := ?_) rfl (by kernel_rfl) (by kernel_rfl) (by kernel_rfl) (fun _ _ _ h => h) (Or.inl ⟨by rfl, ?_⟩) hS ?_
    rotate_left
    · intro w0 hs; subst hs; go_simp; try (with_reducible rfl)
    try simp only [Act.put, List.setIfInBounds_toArray, List.set_cons_zero, List.set_cons_succ]
    refine wpAnyH_take (i := 2) (oi := ⟨_, _, _, _, _, _⟩) (v := ?_) rfl (by kernel_rfl) (by kernel_rfl) (by kernel_rfl) (fun _ _ _ h => h) (Or.inl ⟨by rfl, ?_⟩) hS ?_
    rotate_left
    · intro w0 hs; subst hs; go_simp; try (with_reducible rfl)
    try simp only [Act.put, List.setIfInBounds_toArray, List.set_cons_zero, List.set_cons_succ]
    refine wpAnyH_take (i := 3) (oi := ⟨_, _, _, _, _, _⟩) (v := ?_) rfl (by kernel_rfl) (by kernel_rfl) (by kernel_rfl) (fun _ _ _ h => h) (Or.inl ⟨by rfl, ?_⟩) hS ?_
    rotate_left
    · intro w0 hs; subst hs; go_simp; try (with_reducible rfl)
    try simp only [Act.put, List.setIfInBounds_toArray, List.set_cons_zero, List.set_cons_succ]
    refine wpAnyH_take (i := 4) (oi := ⟨_, _, _, _, _, _⟩) (v := ?_) rfl (by kernel_rfl) (by kernel_rfl) (by kernel_rfl) (fun _ _ _ h => h) (Or.inl ⟨by rfl, ?_⟩) hS ?_
    rotate_left
    · intro w0 hs; subst hs; go_simp; try (with_reducible rfl)
    try simp only [Act.put, List.setIfInBounds_toArray, List.set_cons_zero, List.set_cons_succ]
    refine wpAnyH_take (i := 5) (oi := ⟨_, _, _, _, _, _⟩) (v := ?_) rfl (by kernel_rfl) (by kernel_rfl) (by kernel_rfl) (fun _ _ _ h => h) (Or.inl ⟨by rfl, ?_⟩) hS ?_
    rotate_left
    · intro w0 hs; subst hs; go_simp; try (with_reducible rfl)
    try simp only [Act.put, List.setIfInBounds_toArray, List.set_cons_zero, List.set_cons_succ]
    refine wpAnyH_take (i := 6) (oi := ⟨_, _, _, _, _, _⟩) (v := ?_) rfl (by kernel_rfl) (by kernel_rfl) (by kernel_rfl) (fun _ _ _ h => h) (Or.inl ⟨by rfl, ?_⟩) hS ?_
    rotate_left
    · intro w0 hs; subst hs; go_simp; try (with_reducible rfl)
    try simp only [Act.put, List.setIfInBounds_toArray, List.set_cons_zero, List.set_cons_succ]
    refine wpAnyH_take (i := 7) (oi := ⟨_, _, _, _, _, _⟩) (v := ?_) rfl (by kernel_rfl) (by kernel_rfl) (by kernel_rfl) (fun _ _ _ h => h) (Or.inl ⟨by rfl, ?_⟩) hS ?_
    rotate_left
    · intro w0 hs; subst hs; go_simp; try (with_reducible rfl)
    try simp only [Act.put, List.setIfInBounds_toArray, List.set_cons_zero, List.set_cons_succ]
    refine wpAnyH_take (i := 8) (oi := ⟨_, _, _, _, _, _⟩) (v := ?_) rfl (by kernel_rfl) (by kernel_rfl) (by kernel_rfl) (fun _ _ _ h => h) (Or.inl ⟨by rfl, ?_⟩) hS ?_
    rotate_left
    · intro w0 hs; subst hs; go_simp; try (with_reducible rfl)
    try simp only [Act.put, List.setIfInBounds_toArray, List.set_cons_zero, List.set_cons_succ]
    refine wpAnyH_done (by kernel_rfl) ?_ _
    go_wp2
    exact bodyPost_ret (results_tmp3 Tryd.results63 _ _ _) rfl (CutPost.ok HE.out HN.out (HR.out 1 _ (fun h => rfl) ⟨_, rfl⟩) (below_drewN w 1))
theorem decE_W {b : Int} {r : List Int} {W : Nat} (hW : decW b = W) (h0 : 0 < W) : decE (b :: r) = if r.length < W then 50 else if leN (r.take W) < decL b then 51 else 0 := by
  unfold decE; simp only; rw [hW, if_neg (by omega)]
theorem decN_W {b : Int} {r : List Int} {W : Nat} (hW : decW b = W) (h0 : 0 < W) : decN (b :: r) = leN (r.take W) := by
  unfold decN; simp only; rw [hW, if_neg (by omega)]
theorem pcut_short (b : Int) (r : List Int) (W : Nat) (pb po c : Nat) (w : World) (hc : ∀ i, i < r.length + 1 → w.cell? ⟨pb, po + i, none⟩ = some (.int .u8 ((b :: r).getD i 0))) (hlc : r.length + 1 ≤ c) (hcm : c ≤ 9223372036854775807) (hl47 : r.length + 1 ≤ 140737488355328) (hW : decW b = W) (h0 : 0 < W) (hs : r.length < W) :
    Calls Tryd.prog 63 #[.slice (some ⟨pb, po, none⟩) (r.length + 1) c] w (CutPost (b :: r) w) := by
  have PW := Lib.hid (pwidth b w)
  rw [hW] at PW
  have c0 := hc 0 (by omega)
  rw [List.getD_cons_zero, Nat.add_zero] at c0
  have HE := Lib.hid (show decE (b :: r) = 50 from by rw [decE_W hW h0, if_pos hs])
  have e1 : ((W : Int) == 0) = false := beq_false_of_ne (by omega)
  have e2 : decide ((r.length : Int) + 1 ≤ (W : Int)) = true := decide_eq_true (by omega)
  have e3 : decide (r.length + 1 ≤ W) = true := decide_eq_true (by omega)
  have e4 : r.length + 1 ≤ W := by omega
  clear hc hW
  generalize decL b = L at *
  go_enter Tryd.func63, Tryd.ntmps63
  go_wp2_with fail
  refine PW.out.mono ?_
  rintro e w1 ⟨rfl, rfl⟩
  go_wp2
  exact bodyPost_ret (results_tmp3 Tryd.results63 _ _ _) rfl (CutPost.err HE.out (by decide) (Below.refl _ _))
set_option maxHeartbeats 3200000 in
theorem pcutW (b : Int) (r : List Int) (W : Nat) (pb po c : Nat) (w : World) (hc : ∀ i, i < r.length + 1 → w.cell? ⟨pb, po + i, none⟩ = some (.int .u8 ((b :: r).getD i 0))) (hr : ∀ y ∈ r, 0 ≤ y ∧ y ≤ 255) (hlc : r.length + 1 ≤ c) (hcm : c ≤ 9223372036854775807) (hl47 : r.length + 1 ≤ 140737488355328) (hW : decW b = W) (h0 : 0 < W) (hs : W ≤ r.length) :
    Calls Tryd.prog 63 #[.slice (some ⟨pb, po, none⟩) (r.length + 1) c] w (CutPost (b :: r) w) := by
  have hW8 : W ≤ 8 := by rw [← hW]; exact decW_le b
  have PW := Lib.hid (pwidth b w)
  rw [hW] at PW
  have c0 := hc 0 (by omega)
  rw [List.getD_cons_zero, Nat.add_zero] at c0
  have HE := Lib.hid (show decE (b :: r) = if leN (r.take W) < decL b then 51 else 0 from by rw [decE_W hW h0, if_neg (by omega)])
  have HN := Lib.hid (decN_W (r := r) hW h0)
  have HT := Lib.hid (show (r.take W).length = W from by rw [List.length_take]; omega)
  have HRT := Lib.hid (show ∀ y ∈ r.take W, 0 ≤ y ∧ y ≤ 255 from fun y hy => hr y (List.mem_of_mem_take hy))
  have HC := Lib.hid (show ∀ k, k < W → w.cell? ⟨pb, po + 1 + k, none⟩ = some (.int .u8 ((r.take W).getD k 0)) from fun k hk => by
    rw [Nat.add_assoc, hc (1 + k) (by omega), Nat.add_comm 1 k, List.getD_cons_succ]
    congr 2
    rw [List.getD_eq_getElem?_getD, List.getD_eq_getElem?_getD, List.getElem?_take, if_pos hk])
  have HR := Lib.hid (show ∀ m p, (W + 1 < r.length + 1 → p = some ⟨pb, po + (W + 1), none⟩) → (∃ a, p = some a) → CutAt (w.drewN m) (.slice p (r.length - W) (c - (W + 1))) (decR (b :: r)) from fun m p hp ha => by
    have e : decR (b :: r) = (b :: r).drop (W + 1) := by unfold decR; simp only; rw [hW]; rfl
    have hl : (decR (b :: r)).length = r.length - W := by rw [e]; simp
    refine ⟨p, c - (W + 1), by rw [hl], ?_, by rw [hl]; omega, ⟨by omega, by rw [hl]; omega⟩, ha⟩
    rw [e]
    exact bytes_in_drop (w := w.drewN m) hc (by simp) (W + 1) p hp)
  have e1 : ((W : Int) == 0) = false := beq_false_of_ne (by omega)
  have e2 : decide ((r.length : Int) + 1 ≤ (W : Int)) = false := decide_eq_false (by omega)
  have e3 : decide (r.length + 1 ≤ W) = false := decide_eq_false (by omega)
  have hsl := Lib.hid hs
  obtain ⟨N, hN⟩ : ∃ N, N = r.length := ⟨_, rfl⟩
  rw [← hN] at e2 e3 hlc hs HR ⊢
  have HNN := Lib.hid hN
  have s1 : IntKind.i64.wrap (1 + (W : Int)) = 1 + (W : Int) := by rw [IntKind.wrap_i64]; omega
  have s2 : (1 : Int) ≤ 1 + (W : Int) := by omega
  have s3 : 1 + (W : Int) ≤ (N : Int) + 1 := by omega
  have s4 : 1 + (W : Int) ≤ (c : Int) := by omega
  have s5 : (1 + (W : Int)).toNat = 1 + W := by omega
  have s6 : 0 ≤ 1 + (W : Int) := by omega
  have s7 : ¬ 1 + W = 1 := by omega
  have hcn : ¬ c = 1 := by omega
  clear hc hW hN hr
  generalize hL : decL b = L at *
  go_enter Tryd.func63, Tryd.ntmps63
  go_wp2_with fail
  refine PW.out.mono ?_
  rintro e w1 ⟨rfl, rfl⟩
  go_wp2
  go_loopg [7, 39] W (fun gh s i wx => ∃ k t : Nat, k ≤ W ∧ s = .int .u64 (t : Int) ∧ i = .int .i64 (k : Int) ∧ gh = W - k ∧ Hid (t = leN ((r.take W).take k)) ∧ wx = w)
  case atStart => exact ⟨0, 0, Nat.zero_le _, rfl, rfl, rfl, by rw [List.take_zero]; rfl, rfl⟩
  case round =>
    obtain ⟨k, t, hk, rfl, rfl, hg, HTT, hwx⟩ := hrel
    obtain rfl : w = wr := hwx.symm
    have HGK := Lib.hid hg
    clear hg
    by_cases hlt : k < W
    · have cb := HC.out k hlt
      have hst := le_step (r.take W) HRT.out k (by rw [HT.out]; exact hlt) (by rw [HT.out]; exact hW8)
      have hx := getD_rng HRT.out k
      generalize (r.take W).getD k 0 = x at *
      rw [← HTT.out] at hst
      generalize hu : leN ((r.take W).take (k + 1)) = u at *
      have HU := Lib.hid hu
      obtain ⟨hx0, hx1⟩ := hx
      have a2 : IntKind.i64.wrap (8 * (k : Int)) = 8 * (k : Int) := by rw [IntKind.wrap_i64]; omega
      have hux : IntKind.u64.wrap x = x := IntWalk.u64_in _ (by omega)
      clear hu
      go_wp2
      go_roundg (W - (k + 1))
      case measure => rw [HGK.out]; omega
      case rel => exact ⟨k + 1, u, hlt, rfl, rfl, rfl, HU.out.symm, rfl⟩
    · obtain rfl : k = W := by omega
      have ht : t = leN (r.take k) := by rw [HTT.out, List.take_of_length_le (by rw [HT.out]; exact Nat.le_refl _)]
      rw [← ht] at HE HN
      clear ht HTT
      by_cases hlL : t < L
      · have HE2 := Lib.hid (show decE (b :: r) = 51 from by rw [HE.out, if_pos hlL])
        have d1 : decide ((t : Int) < (L : Int)) = true := decide_eq_true (by omega)
        have d2 : decide (t < L) = true := decide_eq_true hlL
        go_wp2
        exact bodyPost_ret (results_tmp3 Tryd.results63 _ _ _) rfl (CutPost.err HE2.out (by decide) (Below.refl _ _))
      · have HE2 := Lib.hid (show decE (b :: r) = 0 from by rw [HE.out, if_neg hlL])
        have d1 : decide ((t : Int) < (L : Int)) = false := decide_eq_false (by omega)
        have d2 : decide (t < L) = false := decide_eq_false hlL
        have HN2 := Lib.hid (show (t : Int) = (decN (b :: r) : Int) from by rw [HN.out])
        clear hlL HE HN
        have u1 : IntKind.i64.wrap (1 + (k : Int)) = 1 + (k : Int) := s1
        have u2 : N + 1 - (1 + k) = N - k := by omega
        have u3 : 1 + k ≤ N + 1 := by omega
        have HP := Lib.hid (show ∀ m, CutAt (w.drewN m) (.slice (if c = 1 + k then some ⟨pb, po, none⟩ else some ⟨pb, po + (1 + k), none⟩) (N - k) (c - (1 + k))) (decR (b :: r)) from fun m => by
          have := HR.out m (if c = 1 + k then some ⟨pb, po, none⟩ else some ⟨pb, po + (1 + k), none⟩) (fun h => by rw [if_neg (by omega), Nat.add_comm k 1]) (by split <;> exact ⟨_, rfl⟩)
          rw [Nat.add_comm k 1] at this; exact this)
        generalize hpp : (if c = 1 + k then some (⟨pb, po, none⟩ : Addr) else some ⟨pb, po + (1 + k), none⟩) = pp at *
        go_upto_region 16 with fail
        refine wp_region_held_drew (S := fun w' => w' = w.drew) (by kernel_rfl) rfl (fun hS => ?_)
        refine wpAnyH_take (i := 0) (oi := ⟨_, _, _, _, _, _⟩) (v := ?_) rfl (by kernel_rfl) (by kernel_rfl) (by kernel_rfl) (fun _ _ _ h => h) (Or.inl ⟨by rfl, ?_⟩) hS ?_
        rotate_left
        · intro w0 hs; subst hs; go_simp; try (with_reducible rfl)
        try simp only [Act.put, List.setIfInBounds_toArray, List.set_cons_zero, List.set_cons_succ]
        refine wpAnyH_take (i := 1) (oi := ⟨_, _, _, _, _, _⟩) (v := ?_) rfl (by kernel_rfl) (by kernel_rfl) (by kernel_rfl) (fun _ _ _ h => h) (Or.inl ⟨by rfl, ?_⟩) hS ?_
        rotate_left
        · intro w0 hs; subst hs; go_simp; try (with_reducible rfl)
        try simp only [Act.put, List.setIfInBounds_toArray, List.set_cons_zero, List.set_cons_succ]
        refine wpAnyH_take (i := 2) (oi := ⟨_, _, _, _, _, _⟩) (v := ?_) rfl (by kernel_rfl) (by kernel_rfl) (by kernel_rfl) (fun _ _ _ h => h) (Or.inl ⟨by rfl, ?_⟩) hS ?_
        rotate_left
        · intro w0 hs; subst hs; go_simp; try (with_reducible rfl)
        try simp only [Act.put, List.setIfInBounds_toArray, List.set_cons_zero, List.set_cons_succ]
        refine wpAnyH_take (i := 3) (oi := ⟨_, _, _, _, _, _⟩) (v := ?_) rfl (by kernel_rfl) (by kernel_rfl) (by kernel_rfl) (fun _ _ _ h => h) (Or.inl ⟨by rfl, ?_⟩) hS ?_
        rotate_left
        · intro w0 hs; subst hs; go_simp; try (with_reducible rfl)
        try simp only [Act.put, List.setIfInBounds_toArray, List.set_cons_zero, List.set_cons_succ]
        refine wpAnyH_take (i := 4) (oi := ⟨_, _, _, _, _, _⟩) (v := ?_) rfl (by kernel_rfl) (by kernel_rfl) (by kernel_rfl) (fun _ _ _ h => h) (Or.inl ⟨by rfl, ?_⟩) hS ?_
        rotate_left
        · intro w0 hs; subst hs; go_simp; try (with_reducible rfl)
        try simp only [Act.put, List.setIfInBounds_toArray, List.set_cons_zero, List.set_cons_succ]
        refine wpAnyH_take (i := 5) (oi := ⟨_, _, _, _, _, _⟩) (v := ?_) rfl (by kernel_rfl) (by kernel_rfl) (by kernel_rfl) (fun _ _ _ h => h) (Or.inl ⟨by rfl, ?_⟩) hS ?_
        rotate_left
        · intro w0 hs; subst hs; go_simp; try (with_reducible rfl)
        try simp only [Act.put, List.setIfInBounds_toArray, List.set_cons_zero, List.set_cons_succ]
        refine wpAnyH_take (i := 6) (oi := ⟨_, _, _, _, _, _⟩) (v := ?_) rfl (by kernel_rfl) (by kernel_rfl) (by kernel_rfl) (fun _ _ _ h => h) (Or.inl ⟨by rfl, ?_⟩) hS ?_
        rotate_left
        · intro w0 hs; subst hs; go_simp; try (with_reducible rfl)
        try simp only [Act.put, List.setIfInBounds_toArray, List.set_cons_zero, List.set_cons_succ]
        refine wpAnyH_take (i := 7) (oi := ⟨_, _, _, _, _, _⟩) (v := ?_) rfl (by kernel_rfl) (by kernel_rfl) (by kernel_rfl) (fun _ _ _ h => h) (Or.inl ⟨by rfl, ?_⟩) hS ?_
        rotate_left
        · intro w0 hs; subst hs; go_simp; try (with_reducible rfl)
        try simp only [Act.put, List.setIfInBounds_toArray, List.set_cons_zero, List.set_cons_succ]
        refine wpAnyH_done (by kernel_rfl) ?_ _
        go_wp2
        exact bodyPost_ret (results_tmp3 Tryd.results63 _ _ _) rfl (CutPost.ok HE2.out HN2.out (HP.out 1) (below_drewN w 1))
end Go.Proofs.YtgedpgdefafofaaDoor
end

section
/- A filter's numbers, plainly. -/
namespace Go.Proofs.YtgedpgdefafofaaDoor
open Go Go.RowKit
set_option linter.unusedVariables false

/-- how many ones stand ahead -/
def lead : List Bool → Nat
  | true :: t => lead t + 1
  | _ => 0
theorem lead_split : ∀ s : List Bool, s = List.replicate (lead s) true ++ s.drop (lead s) ∧ (s.drop (lead s) = [] ∨ ∃ t, s.drop (lead s) = false :: t)
  | [] => ⟨rfl, .inl rfl⟩
  | false :: t => ⟨rfl, .inr ⟨t, rfl⟩⟩
  | true :: t => by
    obtain ⟨h1, h2⟩ := lead_split t
    refine ⟨?_, h2⟩
    show true :: t = List.replicate (lead t + 1) true ++ t.drop (lead t)
    rw [List.replicate_succ, List.cons_append, ← h1]
/-- a code is read -/
def riceO (C most : Nat) (s : List Bool) : Option (Nat × List Bool) :=
  if most < lead s then none else match s.drop (lead s) with
    | [] => none
    | _ :: t => if t.length < C then none else some (lead s * 2 ^ C + valOf (t.take C), t.drop C)
/-- where it fails -/
theorem riceO_none {C most : Nat} {s : List Bool} (h : riceO C most s = none) : ∃ q T, s = List.replicate q true ++ T ∧ q ≤ most ∧ (T = [] ∨ (∃ t, T = false :: t ∧ t.length < C) ∨ (∃ t, T = true :: t ∧ q = most)) := by
  obtain ⟨h1, h2⟩ := lead_split s
  unfold riceO at h
  by_cases hm : most < lead s
  · refine ⟨most, List.replicate (lead s - most) true ++ s.drop (lead s), ?_, Nat.le_refl _, .inr (.inr ⟨List.replicate (lead s - most - 1) true ++ s.drop (lead s), ?_, rfl⟩)⟩
    · rw [← List.append_assoc, List.replicate_append_replicate, show most + (lead s - most) = lead s from by omega]; exact h1
    · rw [show lead s - most = (lead s - most - 1) + 1 from by omega, List.replicate_succ, List.cons_append]; rfl
  · rw [if_neg hm] at h
    rcases h2 with h2 | ⟨t, h2⟩
    · exact ⟨lead s, [], by rw [← h2]; exact h1, by omega, .inl rfl⟩
    · rw [h2] at h
      simp only at h
      by_cases ht : t.length < C
      · exact ⟨lead s, false :: t, by rw [← h2]; exact h1, by omega, .inr (.inl ⟨t, rfl, ht⟩)⟩
      · rw [if_neg ht] at h; cases h
theorem riceO_some {C most d : Nat} {s s' : List Bool} (h : riceO C most s = some (d, s')) : ∃ q t, s = List.replicate q true ++ false :: t ∧ q ≤ most ∧ C ≤ t.length ∧ d = q * 2 ^ C + valOf (t.take C) ∧ s' = t.drop C := by
  obtain ⟨h1, h2⟩ := lead_split s
  unfold riceO at h
  by_cases hm : most < lead s
  · rw [if_pos hm] at h; cases h
  · rw [if_neg hm] at h
    rcases h2 with h2 | ⟨t, h2⟩
    · rw [h2] at h; cases h
    · rw [h2] at h
      simp only at h
      by_cases ht : t.length < C
      · rw [if_pos ht] at h; cases h
      · rw [if_neg ht] at h
        cases h
        exact ⟨lead s, t, by rw [← h2]; exact h1, by omega, by omega, rfl, rfl⟩
/-- so many numbers are read -/
def valLoop (n : Nat) : Nat → Nat → List Bool → Option (List Nat × List Bool)
  | 0, _, s => some ([], s)
  | k + 1, sum, s => match riceO 19 (2 * n) s with
    | none => none
    | some (d, s') => if n * 784931 ≤ sum + d then none else (valLoop n k (sum + d) s').map fun (p : List Nat × List Bool) => ((sum + d) :: p.1, p.2)
/-- the numbers in a filter -/
def valuesS (bs : List Int) : Option (List Nat) :=
  if decE bs ≠ 0 ∨ 20000 < decN bs then none else match valLoop (decN bs) (decN bs) 0 (unpack (decR bs)) with
    | none => none
    | some (l, s) => if 7 < s.length then none else if valOf s ≠ 0 then none else some l
theorem valLoop_none {n k sum : Nat} {s : List Bool} (h : riceO 19 (2 * n) s = none) : valLoop n (k + 1) sum s = none := by
  unfold valLoop; rw [h]
theorem valLoop_over {n k sum d : Nat} {s s' : List Bool} (h : riceO 19 (2 * n) s = some (d, s')) (h2 : n * 784931 ≤ sum + d) : valLoop n (k + 1) sum s = none := by
  unfold valLoop; rw [h]; simp only; rw [if_pos h2]
theorem valLoop_step {n k sum d : Nat} {s s' : List Bool} (h : riceO 19 (2 * n) s = some (d, s')) (h2 : ¬ n * 784931 ≤ sum + d) : valLoop n (k + 1) sum s = (valLoop n k (sum + d) s').map fun (p : List Nat × List Bool) => ((sum + d) :: p.1, p.2) := by
  show (match riceO 19 (2 * n) s with
    | none => none
    | some (d, s') => if n * 784931 ≤ sum + d then none else (valLoop n k (sum + d) s').map fun (p : List Nat × List Bool) => ((sum + d) :: p.1, p.2)) = _
  rw [h]; simp only; rw [if_neg h2]
/-- the loop, so far: l are the numbers read, k are left -/
def ValInv (n : Nat) (S0 : List Bool) (l : List Nat) (k sum : Nat) (s : List Bool) : Prop := valLoop n n 0 S0 = (valLoop n k sum s).map fun (p : List Nat × List Bool) => (l ++ p.1, p.2)
theorem ValInv.start (n : Nat) (S0 : List Bool) : ValInv n S0 [] n 0 S0 := by
  unfold ValInv
  cases valLoop n n 0 S0 <;> simp
theorem ValInv.step {n : Nat} {S0 : List Bool} {l : List Nat} {k sum d : Nat} {s s' : List Bool} (h : ValInv n S0 l (k + 1) sum s) (h1 : riceO 19 (2 * n) s = some (d, s')) (h2 : ¬ n * 784931 ≤ sum + d) : ValInv n S0 (l ++ [sum + d]) k (sum + d) s' := by
  unfold ValInv at *
  rw [h, valLoop_step h1 h2, Option.map_map]
  congr 1
  funext p
  simp
theorem valOf_take (s : List Bool) (n : Nat) (h : s.length ≤ n) : valOf (s.take n) = valOf s := by rw [List.take_of_length_le h]
theorem rice_small {C most d : Nat} {s s' : List Bool} (h : riceO C most s = some (d, s')) : d < (most + 1) * 2 ^ C := by
  obtain ⟨q, t, _, hq, hC, rfl, _⟩ := riceO_some h
  have h1 := valOf_lt (t.take C)
  rw [List.length_take, Nat.min_eq_left hC] at h1
  have h2 : q * 2 ^ C ≤ most * 2 ^ C := Nat.mul_le_mul_right _ hq
  rw [Nat.add_mul, Nat.one_mul]
  omega
theorem vriceA (r : Nat) (s : List Bool) (most : Nat) (w : World) (h : RdAt w r s) (hm : most ≤ 1000000) :
    Calls Tryd.prog 41 #[.pointer (some ⟨r, 0, none⟩), .int .i64 19, .int .u64 (most : Int)] w fun e w' => Keep (fun k => k = r) w w' ∧ match riceO 19 most s with
      | none => ∃ x : Int, (x = 50 ∨ x = 51) ∧ e = .returned (.tuple #[.int .u64 0, .int .i64 x])
      | some (d, s') => e = .returned (.tuple #[.int .u64 (d : Int), .int .i64 0]) ∧ RdAt w' r s' := by
  cases hr : riceO 19 most s with
  | none =>
    obtain ⟨q, T, rfl, hq, hf⟩ := riceO_none hr
    exact (vriceF r q 19 most T w h hq (by omega) (by decide) hf).mono fun e w' ⟨x, hx, he, hk⟩ => ⟨hk, x, hx, he⟩
  | some p =>
    obtain ⟨d, s'⟩ := p
    obtain ⟨q, t, rfl, hq, hC, rfl, rfl⟩ := riceO_some hr
    exact (vrice r q 19 most t w h hq (by omega) (by decide) hC (by
      have : q * 2 ^ 19 ≤ 1000000 * 2 ^ 19 := Nat.mul_le_mul_right _ (by omega)
      omega)).mono fun e w' ⟨he, h1, hk⟩ => ⟨hk, he, h1⟩
theorem wriceA (r : Nat) (s : List Bool) (most : Nat) (w : World) (h : RfAt w r s) (hm : most ≤ 1000000) :
    Calls Tryd.prog 78 #[.pointer (some ⟨r, 0, none⟩), .int .i64 19, .int .u64 (most : Int)] w fun e w' => Keep (fun k => k = r) w w' ∧ match riceO 19 most s with
      | none => ∃ x : Int, (x = 50 ∨ x = 51) ∧ e = .returned (.tuple #[.int .u64 0, .int .i64 x])
      | some (d, s') => e = .returned (.tuple #[.int .u64 (d : Int), .int .i64 0]) ∧ RfAt w' r s' := by
  cases hr : riceO 19 most s with
  | none =>
    obtain ⟨q, T, rfl, hq, hf⟩ := riceO_none hr
    exact (wriceF r q 19 most T w h hq (by omega) (by decide) hf).mono fun e w' ⟨x, hx, he, hk⟩ => ⟨hk, x, hx, he⟩
  | some p =>
    obtain ⟨d, s'⟩ := p
    obtain ⟨q, t, rfl, hq, hC, rfl, rfl⟩ := riceO_some hr
    exact (wrice r q 19 most t w h hq (by omega) (by decide) hC (by
      have : q * 2 ^ 19 ≤ 1000000 * 2 ^ 19 := Nat.mul_le_mul_right _ (by omega)
      omega)).mono fun e w' ⟨he, h1, hk⟩ => ⟨hk, he, h1⟩
end Go.Proofs.YtgedpgdefafofaaDoor
end

section
/- Maps keyed by int, told by a function. No program in sight. -/
namespace Go.Proofs.YtgedpgdefafofaaDoor
open Go Go.RowKit Go.Maps Go.ChangeMaps

def RV (v : Value) : Option (DataW Value × List MemPlace) := some (.held v, [])
/-- block b is a map keyed by int of n entries; f tells what is at a key -/
def IMap (P : Program) (k : TypeId) (w : World) (b : Nat) (f : Int → Option Value) (n : Nat) : Prop :=
  ∃ D : DataW Value, w.ownsMap P k RV b n D ∧ Maps.size D = n ∧ ∀ x, (Lit.int .i64 x).wf = true → Maps.has D (.int .i64 x) = (f x).isSome ∧ ∀ v, f x = some v → ∀ z, D.atKey (.int .i64 x) z = .held v
section
variable {P : Program} {k : TypeId} {w w' : World} {b n : Nat} {f : Int → Option Value} {D : DataW Value}
theorem ownsMap_tight (h : w.ownsMap P k RV b n D) : w.ownsMap P k RV b (Maps.size D) D := by
  obtain ⟨es, clock, hb, F, hs, rfl⟩ := h
  exact ⟨es, clock, hb, F, by simp [Maps.size, length_sorted], rfl⟩
theorem IMap.made (w : World) (P : Program) (k : TypeId) : IMap P k (w.alloc (.map #[] 0)) w.heap.size (fun _ => none) 0 :=
  ⟨_, World.ownsMap_made w P k RV, rfl, fun x _ => ⟨rfl, fun v hv => by cases hv⟩⟩
theorem IMap.lt (h : IMap P k w b f n) : b < w.heap.size := by obtain ⟨D, h1, _⟩ := h; exact h1.lt
theorem IMap.keep {X : Nat → Prop} (h : IMap P k w b f n) (hk : Keep X w w') (hn : ¬ X b) : IMap P k w' b f n := by
  obtain ⟨D, h1, h2⟩ := h
  have hl := h1.lt
  obtain ⟨es, clock, hb, r⟩ := h1
  exact ⟨D, ⟨es, clock, (hk.block b hl hn).trans hb, r⟩, h2⟩
theorem IMap.drew (h : IMap P k w b f n) : IMap P k w.drew b f n := h
theorem RV_inv {v : Value} {d : DataW Value} {ps : List MemPlace} (h : RV v = some (d, ps)) : d = .held v := by
  simp [RV] at h; exact h.1.symm
theorem keyLit (hk : P.underlying k = some (.int .i64)) {x : Int} (hx : (Lit.int .i64 x).wf = true) : keyOf P k (.int .i64 x) = some (.int .i64 x) := keyOf_int_mk hk hx
theorem IMap.at (h : IMap P k w b f n) {x : Int} (hx : (Lit.int .i64 x).wf = true) : ∃ D : DataW Value, w.ownsMap P k RV b n D ∧ (∀ z, D.atKey (.int .i64 x) (.held z) = .held ((f x).getD z)) ∧ Maps.has D (.int .i64 x) = (f x).isSome := by
  obtain ⟨D, h1, h2, h3⟩ := h
  obtain ⟨e1, e2⟩ := h3 x hx
  refine ⟨D, h1, fun z => ?_, e1⟩
  cases hf : f x with
  | none =>
    rw [hf] at e1
    exact atKey_of_not_has e1 _
  | some v => exact e2 v hf _
/-- 'm[k]' -/
theorem IMap.look (h : IMap P k w b f n) {t e : TypeId} (hk : P.underlying k = some (.int .i64)) (ht : P.underlying t = some (.map k e)) {z : Value} (hz : (zeroValue e).run P w = .ok z w) {x : Int} (hx : (Lit.int .i64 x).wf = true) :
    (Instr.lookup t (.map (some b)) (.int .i64 x) false).run P w = .ok ((f x).getD z) w := by
  obtain ⟨D, h1, h2, _⟩ := h.at hx
  obtain ⟨v, ps, hrun, hv⟩ := h1.lookup (int_keyed hk) ht hz (R := RV) (zd := .held z) (zp := []) rfl (keyLit hk hx)
  have e1 := RV_inv hv
  rw [h2 z] at e1
  rw [hrun]
  injection e1 with e1
  rw [e1]
/-- 'v, ok := m[k]' -/
theorem IMap.lookOk (h : IMap P k w b f n) {t e : TypeId} (hk : P.underlying k = some (.int .i64)) (ht : P.underlying t = some (.map k e)) {z : Value} (hz : (zeroValue e).run P w = .ok z w) {x : Int} (hx : (Lit.int .i64 x).wf = true) :
    (Instr.lookup t (.map (some b)) (.int .i64 x) true).run P w = .ok (.tuple #[(f x).getD z, .bool (f x).isSome]) w := by
  obtain ⟨D, h1, h2, h3⟩ := h.at hx
  obtain ⟨v, ps, hrun, hv⟩ := h1.look_ok (int_keyed hk) ht hz (R := RV) (zd := .held z) (zp := []) rfl (keyLit hk hx)
  have e1 := RV_inv hv
  rw [h2 z] at e1
  rw [hrun, h3]
  injection e1 with e1
  rw [e1]
/-- 'len(m)' -/
theorem IMap.len (h : IMap P k w b f n) {t e : TypeId} (ht : P.underlying t = some (.map k e)) (ty : TypeId) : (Builtin.len_ #[t] ty #[.map (some b)]).run P w = .ok (.int .i64 (n : Int)) w := by
  obtain ⟨D, h1, h2, _⟩ := h
  rw [h1.len ht ty, h2]
theorem Keep.of_turned (h : w.mapTurned w' b) : Keep (fun k => k = b) w w' := Keep.of_grown h.grown (fun g hg => by cases hg; rfl)
theorem lit_ne {x y : Int} (h : y ≠ x) : (Lit.int .i64 y) ≠ (Lit.int .i64 x) := fun e => h (by injection e)
/-- 'm[k] = v' -/
theorem IMap.store (h : IMap P k w b f n) {t e : TypeId} (hk : P.underlying k = some (.int .i64)) (ht : P.underlying t = some (.map k e)) (hn : n < maxLen) {x : Int} (hx : (Lit.int .i64 x).wf = true) (v : Value) :
    ∃ w', (Instr.mapUpdate t (.map (some b)) (.int .i64 x) v).run P w = .ok () w' ∧ IMap P k w' b (fun y => if y = x then some v else f y) (if (f x).isSome then n else n + 1) ∧ Keep (fun k => k = b) w w' := by
  obtain ⟨D, h1, h2, h3⟩ := h
  obtain ⟨w1, hrun, r1, r2⟩ := h1.store (int_keyed hk) ht hn (R := RV) (d := .held v) (ps := []) (keyLit hk hx) rfl
  have hsz := size_put (k := .int .i64 x) (h1.tidy (int_keyed hk)) (.held v : DataW Value)
  rw [(h3 x hx).1, h2] at hsz
  refine ⟨w1, hrun, ⟨D.put (.int .i64 x) (.held v), ?_, hsz, fun y hy => ?_⟩, Keep.of_turned r2⟩
  · have := ownsMap_tight r1
    rw [hsz] at this
    exact this
  · by_cases hyx : y = x
    · subst hyx
      simp only [if_true]
      refine ⟨has_put_same h1.isMap (show WideAt.IsKeyLit (.int .i64 y) from trivial) _, fun v' hv' z => ?_⟩
      cases hv'
      exact atKey_put_same h1.isMap (show WideAt.IsKeyLit (.int .i64 y) from trivial) _ _
    · simp only [if_neg hyx]
      refine ⟨(has_put_other (lit_ne hyx) _).trans (h3 y hy).1, fun v' hv' z => (atKey_put_other (lit_ne hyx) _ _).trans ((h3 y hy).2 v' hv' z)⟩
/-- 'delete(m, k)' -/
theorem IMap.drop (h : IMap P k w b f n) {t e : TypeId} (hk : P.underlying k = some (.int .i64)) (ht : P.underlying t = some (.map k e)) {x : Int} (hx : (Lit.int .i64 x).wf = true) (ty : TypeId) :
    ∃ w', (Builtin.delete_ #[t, k] ty #[.map (some b), .int .i64 x]).run P w = .ok (.tuple #[]) w' ∧ IMap P k w' b (fun y => if y = x then none else f y) (if (f x).isSome then n - 1 else n) ∧ Keep (fun k => k = b) w w' := by
  obtain ⟨D, h1, h2, h3⟩ := h
  obtain ⟨w1, hrun, r1, r2⟩ := h1.drop (int_keyed hk) ht (keyLit hk hx) ty
  have hsz := size_del (k := .int .i64 x) (h1.tidy (int_keyed hk))
  rw [(h3 x hx).1, h2] at hsz
  have hsz2 : Maps.size (D.del (.int .i64 x)) = if (f x).isSome then n - 1 else n := by
    cases hf : (f x).isSome <;> rw [hf] at hsz <;> simp at hsz ⊢ <;> omega
  refine ⟨w1, hrun, ⟨D.del (.int .i64 x), ?_, hsz2, fun y hy => ?_⟩, Keep.of_turned r2⟩
  · have := ownsMap_tight r1
    rw [hsz2] at this
    exact this
  · by_cases hyx : y = x
    · subst hyx
      simp only [if_true]
      exact ⟨has_del_same, fun v' hv' => by cases hv'⟩
    · simp only [if_neg hyx]
      refine ⟨(has_del_other (lit_ne hyx)).trans (h3 y hy).1, fun v' hv' z => (atKey_del_other (lit_ne hyx) _).trans ((h3 y hy).2 v' hv' z)⟩
end
/-- 'build' at the list of a region's operations, once its run is known -/
theorem wpl_build {P : Program} {w : World} {ops : Array Oper} {rest : List Oper} {o : Oper} {a : Act} {Q : Exit → Act → World → Prop} (hgd : o.guard = none) (t : TypeId) (parts : Array (Nat × Operand)) (ho : o.op = .build t parts) {ps : Array (Nat × Value)} {v : Value}
    (hp : (parts.map fun (i, x) => (i, a.eval x)) = ps) (hrun : (Instr.build t ps).run P w = .ok v w) (h : wpList P ops Q rest (a.put o.dst v) w) : wpList P ops Q (o :: rest) a w := by
  refine wpList_plain hgd fun K hK' => ?_
  unfold Oper.wp
  subst hp
  simp only [execOp, ho, hrun, Sem.run_bind, Sem.run_pure, Result.andThen_ok]
  exact hK' _ _ h
theorem wpl_makeMap {P : Program} {w : World} {ops : Array Oper} {rest : List Oper} {o : Oper} {a : Act} {Q : Exit → Act → World → Prop} (hgd : o.guard = none) (t : TypeId) (ho : o.op = .makeMap t none)
    (h : wpList P ops Q rest (a.put o.dst (.map (some w.heap.size))) (w.alloc (.map #[] 0))) : wpList P ops Q (o :: rest) a w := by
  refine wpList_plain hgd fun K hK' => ?_
  have hr := @run_makeMap P t w
  unfold Oper.wp
  simp [execOp, ho, hr, Result.andThen]
  exact hK' _ _ h
theorem setCells_alloc (w : World) (t : TypeId) : ∀ (vs pre post : List Value), post.length = vs.length → (w.alloc (.cells (pre ++ post).toArray t)).setCells w.heap.size pre.length vs = w.alloc (.cells (pre ++ vs).toArray t)
  | [], pre, post, h => by
    obtain rfl : post = [] := List.length_eq_zero_iff.1 h
    rfl
  | v :: r, pre, post, h => by
    match post, h with
    | p :: post, h =>
      have e : (pre ++ p :: post).toArray.setIfInBounds pre.length v = ((pre ++ [v]) ++ post).toArray := by simp
      have ih := setCells_alloc w t r (pre ++ [v]) post (by simpa using h)
      rw [World.setCells, World.setCell_alloc_new, e]
      simpa using ih
/-- a whole value stored into a new block -/
theorem store_new {P : Program} (w : World) (t : TypeId) (zs vs : Array Value) (hs : zs.size = vs.size) (h1 : vs.all (·.oneCell') = true) :
    (storeCells ⟨w.heap.size, 0, none⟩ vs.toList).run P (w.alloc (.cells zs t)) = .ok () (w.alloc (.cells vs t)) := by
  have hb := Blk.new w zs t
  have h := run_storeCells_cells (P := P) w.heap.size 0 vs.toList 0 (w.alloc (.cells zs t)) (fun j hj => by rw [hb.cell]; simp at hj ⊢; omega) (fun j hj => hb.free _)
    (fun v hv => (Array.all_eq_true_iff_forall_mem.1 h1) v (by simpa using hv))
  rw [h]
  have e := setCells_alloc w t vs.toList [] zs.toList (by simp [hs])
  simpa using e
end Go.Proofs.YtgedpgdefafofaaDoor
end

section
/- Opening a law's arguments: arrays of integers by value. -/
namespace Go.Proofs.YtgedpgdefafofaaDoor
open Go.ChangeShapes Go.WideShapes Go.ChangeAt Go.RowKit

theorem Tryd.own : ownKnob Tryd.prog.godebug = none := by kernel_rfl
theorem Tryd.laidOut : laidOutB Tryd.prog = true := by kernel_rfl

section
variable {H : Type} {enc : TypeId × Value → H} {P : Program} {w : World} {base : Nat} {spare : Nat → Bool} {held : Bool}
/-- AN ARRAY OF INTEGERS BY VALUE -/
theorem open_arr {r : Reach} {b0 : Nat} {t e : TypeId} {n : Nat} {k : IntKind} {v : Value} {d : DataW H} {p : List MemPlace} (ht : P.underlying t = some (.array n e)) (he : P.underlying e = some (.int k))
    (hce : P.cellsOf e = 1) (hct : P.cellsOf t = n) (hv : Value.okWide P w r b0 t v) (h : DataW.Trod enc P w base spare held t v d p) :
    ∃ f : Nat → Int, v = .agg ((List.range n).map fun i => .int k (f i)).toArray ∧ ∀ i, i < n → (Lit.int k (f i)).wf = true := by
  obtain ⟨cs, rfl, hs, _⟩ : ∃ cs, v = .agg cs ∧ cs.size = P.cellsOf t ∧ Row.okWide P w r b0 t cs := by
    unfold Value.okWide at hv; rw [ht] at hv; exact hv
  obtain ⟨fuel, hf⟩ := h
  obtain ⟨xs, m, _, _, hl, hx, hi⟩ := DataW.trod_array ht hf
  rw [hce] at hi
  rw [hct] at hs
  have key : ∀ i, i < n → ∃ z, cs[i]? = some (.int k z) ∧ (Lit.int k z).wf = true := by
    intro i hlt
    have h1 := hi i hlt
    rw [Nat.mul_one] at h1
    obtain ⟨x, hxi⟩ : ∃ x, xs[i]? = some x := ⟨xs[i]'(by omega), List.getElem?_eq_getElem (by omega)⟩
    rw [hxi] at h1
    have hc : cs[i]? = some (cs[i]'(by omega)) := Array.getElem?_eq_getElem (by omega)
    have h2 : ((Value.agg cs).cells.toList.drop i).take 1 = [cs[i]'(by omega)] := by
      simp [Value.cells, List.take_one, hc]
    rw [h2] at h1
    obtain ⟨z, e0, _, wz⟩ := DataW.trod_int he h1
    refine ⟨z, ?_, wz⟩
    rw [hc]
    simp at e0
    rw [e0]
  refine ⟨fun i => match cs[i]? with | some (.int _ z) => z | _ => 0, ?_, ?_⟩
  · congr 1
    apply Array.ext
    · simp [hs]
    · intro i h1 h2
      obtain ⟨z, hz, _⟩ := key i (by omega)
      simp [hz]
      rw [Array.getElem?_eq_getElem h1] at hz
      exact Option.some.inj hz
  · intro i hlt
    obtain ⟨z, hz, wz⟩ := key i hlt
    simpa [hz] using wz
end

end Go.Proofs.YtgedpgdefafofaaDoor
end

section
/- '==' on two arrays of integers. -/
namespace Go.Proofs.YtgedpgdefafofaaDoor
open Go

theorem run_equalIn_ints {P : Program} (d : Nat) (t e : TypeId) (len : Nat) (k k' : IntKind) (xs ys : Array Value) (f g : Nat → Int) (w : World)
    (ht : P.underlying t = some (.array len e)) (he : P.underlying e = some (.int k')) (ha : ∀ w, (isAgg e).run P w = .ok false w) (hs : ∀ w, (Go.sizeOf e).run P w = .ok 1 w)
    (hx : ∀ i, i < len → xs[i]? = some (.int k (f i))) (hy : ∀ i, i < len → ys[i]? = some (.int k (g i))) :
    (Op.equalIn (d + 2) t (.agg xs) (.agg ys)).run P w = .ok ((List.range len).all fun i => f i == g i) w := by
  have px : ∀ i, i < len → ∀ w, (Go.part e xs i).run P w = .ok (.int k (f i)) w := by
    intro i hi w; simp [Go.part, Sem.run_bind, ha, hx i hi]
  have py : ∀ i, i < len → ∀ w, (Go.part e ys i).run P w = .ok (.int k (g i)) w := by
    intro i hi w; simp [Go.part, Sem.run_bind, ha, hy i hi]
  unfold Op.equalIn
  simp only [Sem.run_bind, run_underlying ht, Result.andThen_ok, hs, Nat.mul_one]
  rw [Std.Legacy.Range.forIn_eq_forIn_range']
  simp only [Std.Legacy.Range.size, Nat.sub_zero, Nat.add_sub_cancel, Nat.div_one]
  have key : ∀ (n s : Nat) (w : World), s + n ≤ len → Sem.run P (forIn (m := Sem) (List.range' s n) ((none, ()) : Option Bool × Unit) (fun i (_ : Option Bool × Unit) => do
            let __do_lift ← Go.part e xs i
            let __do_lift_1 ← Go.part e ys i
            let __do_lift ← Op.equalIn (d + 1) e __do_lift __do_lift_1
            if (!__do_lift) = true then pure (ForInStep.done (some false, ())) else pure (ForInStep.yield (none, ())))) w =
      .ok (if (List.range' s n).all fun i => f i == g i then (none, ()) else (some false, ())) w := by
    intro n
    induction n with
    | zero => intro s w _; simp
    | succ n ih =>
      intro s w h
      rw [List.range'_succ, List.forIn_cons, List.all_cons]
      simp only [Sem.run_bind, px s (by omega), py s (by omega), Result.andThen_ok, run_equalIn_int w d e k k' _ _ he]
      by_cases hfg : f s = g s
      · simp only [hfg, beq_self_eq_true, Bool.not_true, Bool.false_eq_true, if_false, Sem.run_pure, Result.andThen_ok, Bool.true_and]
        exact ih (s + 1) w (by omega)
      · simp [hfg]
  rw [key len 0 w (by omega), Result.andThen_ok, List.range_eq_range']
  cases (List.range' 0 len).all (fun i => f i == g i) <;> rfl

/-- '==' on two arrays of integers -/
theorem run_eql_ints {P : Program} (t e : TypeId) (len : Nat) (k k' : IntKind) (xs ys : Array Value) (f g : Nat → Int) (w : World)
    (ht : P.underlying t = some (.array len e)) (he : P.underlying e = some (.int k')) (ha : ∀ w, (isAgg e).run P w = .ok false w) (hs : ∀ w, (Go.sizeOf e).run P w = .ok 1 w)
    (hx : ∀ i, i < len → xs[i]? = some (.int k (f i))) (hy : ∀ i, i < len → ys[i]? = some (.int k (g i))) :
    (binOp .eql t (.agg xs) (.agg ys)).run P w = .ok (.bool ((List.range len).all fun i => f i == g i)) w := by
  rw [run_eql_struct, run_equalIn_ints 9998 t e len k k' xs ys f g w ht he ha hs hx hy]; rfl
theorem run_neq_ints {P : Program} (t e : TypeId) (len : Nat) (k k' : IntKind) (xs ys : Array Value) (f g : Nat → Int) (w : World)
    (ht : P.underlying t = some (.array len e)) (he : P.underlying e = some (.int k')) (ha : ∀ w, (isAgg e).run P w = .ok false w) (hs : ∀ w, (Go.sizeOf e).run P w = .ok 1 w)
    (hx : ∀ i, i < len → xs[i]? = some (.int k (f i))) (hy : ∀ i, i < len → ys[i]? = some (.int k (g i))) :
    (binOp .neq t (.agg xs) (.agg ys)).run P w = .ok (.bool (!((List.range len).all fun i => f i == g i))) w := by
  rw [run_neq_struct, run_equalIn_ints 9998 t e len k k' xs ys f g w ht he ha hs hx hy]; rfl
end Go.Proofs.YtgedpgdefafofaaDoor
end
