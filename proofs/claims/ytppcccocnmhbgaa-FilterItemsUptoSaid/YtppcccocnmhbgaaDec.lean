/- Counts read: size.width, cut, Decode. -/
import Derived.Test.YtppcccocnmhbgaaEnc
import Derived.Test.YtppcccocnmhbgaaShelf
namespace Go.Proofs.Ytppcccocnmhbgaa
open Go Go.RowKit
set_option linter.unusedSimpArgs false
set_option linter.unusedVariables false
set_option maxRecDepth 100000

/-- how many bytes stand behind a count's first one, and the least number that needs them -/
def decW (b : Int) : Nat := if b = 253 then 2 else if b = 254 then 4 else if b = 255 then 8 else 0
def decL (b : Int) : Nat := if b = 253 then 253 else if b = 254 then 65536 else if b = 255 then 4294967296 else 0
def decE (bs : List Int) : Int := match bs with | [] => 50 | b :: r => if decW b = 0 then 0 else if r.length < decW b then 50 else if leN (r.take (decW b)) < decL b then 51 else 0
def decN (bs : List Int) : Nat := match bs with | [] => 0 | b :: r => if decW b = 0 then b.toNat else leN (r.take (decW b))
def decR (bs : List Int) : List Int := match bs with | [] => [] | b :: r => r.drop (decW b)
theorem below_drewN (w : World) : ∀ n, Below w.heap.size w (w.drewN n) := fun n => ⟨rfl, rfl, rfl, Nat.le_refl _, fun _ _ => rfl⟩
theorem decW_le (b : Int) : decW b ≤ 8 := by unfold decW; split <;> (try split) <;> (try split) <;> omega
theorem pwidth (b : Int) (w : World) : Calls Try.prog 105 #[.int .u8 b] w fun e w' => e = .returned (.tuple #[.int .i64 (decW b : Int), .int .u64 (decL b : Int)]) ∧ w = w' := by
  by_cases h1 : b = 253
  · subst h1
    go_enter Try.func105, Try.ntmps105
    go_wp2
    go_ret2
    exact ⟨rfl, rfl⟩
  · by_cases h2 : b = 254
    · subst h2
      go_enter Try.func105, Try.ntmps105
      go_wp2
      go_ret2
      exact ⟨rfl, rfl⟩
    · by_cases h3 : b = 255
      · subst h3
        go_enter Try.func105, Try.ntmps105
        go_wp2
        go_ret2
        exact ⟨rfl, rfl⟩
      · have e1 : (b == 253) = false := beq_false_of_ne h1
        have e2 : (b == 254) = false := beq_false_of_ne h2
        have e3 : (b == 255) = false := beq_false_of_ne h3
        have HW := Lib.hid (show decW b = 0 ∧ decL b = 0 from ⟨by unfold decW; rw [if_neg h1, if_neg h2, if_neg h3], by unfold decL; rw [if_neg h1, if_neg h2, if_neg h3]⟩)
        clear h1 h2 h3
        go_enter Try.func105, Try.ntmps105
        go_wp2
        go_ret2
        exact ⟨by rw [HW.out.1, HW.out.2]; rfl, rfl⟩
/-- what is cut: bytes that stand behind, in the same memory -/
def CutAt (w : World) (v : Value) (xs : List Int) : Prop := ∃ p c, v = .slice p xs.length c ∧ Lib.BytesIn w p xs.length xs ∧ xs.length ≤ c ∧ (c ≤ 9223372036854775807 ∧ xs.length ≤ 140737488355328) ∧ ∃ a, p = some a
theorem bytes_in_drop {w : World} {b o n : Nat} {xs : List Int} (hc : ∀ i, i < n → w.cell? ⟨b, o + i, none⟩ = some (.int .u8 (xs.getD i 0))) (hn : xs.length = n) (k : Nat) (p : Option Addr) (hp : k < n → p = some ⟨b, o + k, none⟩) : Lib.BytesIn w p (xs.drop k).length (xs.drop k) := fun h0 => by
  rw [List.length_drop] at h0
  refine ⟨b, o + k, hp (by omega), fun i hi => ?_⟩
  rw [List.length_drop] at hi
  rw [Nat.add_assoc, hc (k + i) (by omega)]
  simp [List.getD_eq_getElem?_getD, List.getElem?_drop]
/-- what 'cut' answers -/
def CutPost (bs : List Int) (w : World) (e : Ending) (w' : World) : Prop :=
  ∃ (x : Int) (v : Value), e = .returned (.tuple #[.int .u64 x, v, .int .i64 (decE bs)]) ∧ Below w.heap.size w w' ∧ (decE bs = 0 → x = (decN bs : Int) ∧ CutAt w' v (decR bs)) ∧ (decE bs ≠ 0 → x = 0 ∧ v = .slice none 0 0)
theorem CutPost.err {bs : List Int} {w w' : World} {E : Int} (h : decE bs = E) (hE : E ≠ 0) (hb : Below w.heap.size w w') : CutPost bs w (.returned (.tuple #[.int .u64 0, .slice none 0 0, .int .i64 E])) w' :=
  ⟨0, _, by rw [h], hb, fun h0 => absurd (h.symm.trans h0) hE, fun _ => ⟨rfl, rfl⟩⟩
theorem CutPost.ok {bs : List Int} {w w' : World} {x : Int} {v : Value} (h : decE bs = 0) (hx : x = (decN bs : Int)) (hv : CutAt w' v (decR bs)) (hb : Below w.heap.size w w') : CutPost bs w (.returned (.tuple #[.int .u64 x, v, .int .i64 0])) w' :=
  ⟨x, v, by rw [h], hb, fun _ => ⟨hx, hv⟩, fun h1 => absurd h h1⟩
theorem pcut_nil (q : Option Addr) (c : Nat) (w : World) : Calls Try.prog 81 #[.slice q 0 c] w (CutPost [] w) := by
  go_enter Try.func81, Try.ntmps81
  go_wp2
  exact bodyPost_ret (results_tmp3 Try.results81 _ _ _) rfl (CutPost.err rfl (by decide) (Below.refl _ _))
set_option maxHeartbeats 3200000 in
theorem pcut0 (b : Int) (r : List Int) (pb po c : Nat) (w : World) (hc : ∀ i, i < r.length + 1 → w.cell? ⟨pb, po + i, none⟩ = some (.int .u8 ((b :: r).getD i 0))) (hr : 0 ≤ b ∧ b ≤ 255) (hlc : r.length + 1 ≤ c) (hcm : c ≤ 9223372036854775807) (hl47 : r.length + 1 ≤ 140737488355328) (hW : decW b = 0) :
    Calls Try.prog 81 #[.slice (some ⟨pb, po, none⟩) (r.length + 1) c] w (CutPost (b :: r) w) := by
  have PW := Lib.hid (pwidth b w)
  rw [hW] at PW
  have c0 := hc 0 (by omega)
  rw [List.getD_cons_zero, Nat.add_zero] at c0
  have hbw : IntKind.u64.wrap b = b := IntWalk.u64_in _ (by omega)
  have HE := Lib.hid (show decE (b :: r) = 0 from if_pos hW)
  have HN := Lib.hid (show b = (decN (b :: r) : Int) from by unfold decN; simp only; rw [if_pos hW]; omega)
  have HR := Lib.hid (show ∀ m p, (1 < r.length + 1 → p = some ⟨pb, po + 1, none⟩) → (∃ a, p = some a) → CutAt (w.drewN m) (.slice p r.length (c - 1)) (decR (b :: r)) from fun m p hp ha => ⟨p, c - 1, by unfold decR; simp only; rw [hW, List.drop_zero], by
    have e : decR (b :: r) = (b :: r).drop 1 := by unfold decR; simp only; rw [hW]; rfl
    rw [e]
    exact bytes_in_drop (w := w.drewN m) hc (by simp) 1 p hp, by unfold decR; simp only; rw [hW, List.drop_zero]; omega, ⟨by omega, by unfold decR; simp only; rw [hW, List.drop_zero]; omega⟩, ha⟩)
  clear hc hW
  by_cases h1 : c = 1
  · have hr0 : r.length = 0 := by omega
    generalize r.length = N at *
    subst hr0
    subst h1
    go_enter Try.func81, Try.ntmps81
    go_wp2_with fail
    refine PW.out.mono ?_
    rintro e w1 ⟨rfl, rfl⟩
    go_wp2
    go_quiet (fail)
    go_wp2
    exact bodyPost_ret (results_tmp3 Try.results81 _ _ _) rfl (CutPost.ok HE.out HN.out (HR.out _ _ (fun h => by omega) ⟨_, rfl⟩) (below_drewN w _))
  · have hcn : ¬ c = 1 := h1
    clear h1
    obtain ⟨N, hN⟩ : ∃ N, N = r.length := ⟨_, rfl⟩
    rw [← hN] at hlc HR ⊢
    have HNN := Lib.hid hN
    clear hN
    have k1 : (1 : Int) ≤ (N : Int) + 1 := by omega
    have k2 : (N : Int) + 1 ≤ (c : Int) := by omega
    have k3 : 1 ≤ N + 1 := by omega
    go_enter Try.func81, Try.ntmps81
    go_wp2_with fail
    refine PW.out.mono ?_
    rintro e w1 ⟨rfl, rfl⟩
    go_upto_region 5 with fail
    refine wp_region_held_drew (S := fun w' => w' = w.drew) (by kernel_rfl) rfl (fun hS => ?_)
    refine wpAnyH_take (i := 0) (oi := ⟨_, _, _, _, _, _⟩) (v := ?_) rfl (by kernel_rfl) (by kernel_rfl) (by kernel_rfl) (fun _ _ _ h => h) (Or.inl ⟨by rfl, ?_⟩) hS ?_
    rotate_left
    · intro w0 hs; subst hs; go_simp; try (with_reducible rfl)
    try simp only [Act.put, List.setIfInBounds_toArray, List.set_cons_zero, List.set_cons_succ]
    refine wpAnyH_take (i := 1) (oi := ⟨_, _, _, _, _, _⟩) (v := ?_) rfl (by kernel_rfl) (by kernel_rfl) (by kernel_rfl) (fun _ _ _ h => h) (Or.inl ⟨by rfl, ?_⟩) hS ?_
    rotate_left
    · intro w0 hs; subst hs; go_simp; try (with_reducible rfl)
    try simp only [Act.put, List.setIfInBounds_toArray, List.set_cons_zero, List.set_cons_succ]
    refine wpAnyH_take (i := 2) (oi := ⟨_, _, _, _, _, _⟩) (v := ?_) rfl (by kernel_rfl) (by kernel_rfl) (by kernel_rfl) (fun _ _ _ h => h) (Or.inl ⟨by rfl, ?_⟩) hS ?_
    rotate_left
    · intro w0 hs; subst hs; go_simp; try (with_reducible rfl)
    try simp only [Act.put, List.setIfInBounds_toArray, List.set_cons_zero, List.set_cons_succ]
    refine wpAnyH_take (i := 3) (oi := ⟨_, _, _, _, _, _⟩) (v := ?_) rfl (by kernel_rfl) (by kernel_rfl) (by kernel_rfl) (fun _ _ _ h => h) (Or.inl ⟨by rfl, ?_⟩) hS ?_
    rotate_left
    · intro w0 hs; subst hs; go_simp; try (with_reducible rfl)
    try simp only [Act.put, List.setIfInBounds_toArray, List.set_cons_zero, List.set_cons_succ]
    refine wpAnyH_take (i := 4) (oi := ⟨_, _, _, _, _, _⟩) (v := ?_) rfl (by kernel_rfl) (by kernel_rfl) (by kernel_rfl) (fun _ _ _ h => h) (Or.inl ⟨by rfl, ?_⟩) hS ?_
    rotate_left
    · intro w0 hs; subst hs; go_simp; try (with_reducible rfl)
    try simp only [Act.put, List.setIfInBounds_toArray, List.set_cons_zero, List.set_cons_succ]
    refine wpAnyH_take (i := 5) (oi := ⟨_, _, _, _, _, _⟩) (v := ?_) rfl (by kernel_rfl) (by kernel_rfl) (by kernel_rfl) (fun _ _ _ h => h) (Or.inl ⟨by rfl, ?_⟩) hS ?_
    rotate_left
    · intro w0 hs; subst hs; go_simp; try (with_reducible rfl)
    try simp only [Act.put, List.setIfInBounds_toArray, List.set_cons_zero, List.set_cons_succ]
    refine wpAnyH_take (i := 6) (oi := ⟨_, _, _, _, _, _⟩) (v := ?_) rfl (by kernel_rfl) (by kernel_rfl) (by kernel_rfl) (fun _ _ _ h => h) (Or.inl ⟨by rfl, ?_⟩) hS ?_
    rotate_left
    · intro w0 hs; subst hs; go_simp; try (with_reducible rfl)
    try simp only [Act.put, List.setIfInBounds_toArray, List.set_cons_zero, List.set_cons_succ]
    refine wpAnyH_take (i := 7) (oi := ⟨_, _, _, _, _, _⟩) (v := ?_) rfl (by kernel_rfl) (by kernel_rfl) (by kernel_rfl) (fun _ _ _ h => h) (Or.inl ⟨by rfl, ?_⟩) hS ?_
    rotate_left
    · intro w0 hs; subst hs; go_simp; try (with_reducible rfl)
    try simp only [Act.put, List.setIfInBounds_toArray, List.set_cons_zero, List.set_cons_succ]
    refine wpAnyH_take (i := 8) (oi := ⟨_, _, _, _, _, _⟩) (v := ?_) rfl (by kernel_rfl) (by kernel_rfl) (by kernel_rfl) (fun _ _ _ h => h) (Or.inl ⟨by rfl, ?_⟩) hS ?_
    rotate_left
    · intro w0 hs; subst hs; go_simp; try (with_reducible rfl)
    try simp only [Act.put, List.setIfInBounds_toArray, List.set_cons_zero, List.set_cons_succ]
    refine wpAnyH_done (by kernel_rfl) ?_ _
    go_wp2
    exact bodyPost_ret (results_tmp3 Try.results81 _ _ _) rfl (CutPost.ok HE.out HN.out (HR.out 1 _ (fun h => rfl) ⟨_, rfl⟩) (below_drewN w 1))
theorem decE_W {b : Int} {r : List Int} {W : Nat} (hW : decW b = W) (h0 : 0 < W) : decE (b :: r) = if r.length < W then 50 else if leN (r.take W) < decL b then 51 else 0 := by
  unfold decE; simp only; rw [hW, if_neg (by omega)]
theorem decN_W {b : Int} {r : List Int} {W : Nat} (hW : decW b = W) (h0 : 0 < W) : decN (b :: r) = leN (r.take W) := by
  unfold decN; simp only; rw [hW, if_neg (by omega)]
theorem pcut_short (b : Int) (r : List Int) (W : Nat) (pb po c : Nat) (w : World) (hc : ∀ i, i < r.length + 1 → w.cell? ⟨pb, po + i, none⟩ = some (.int .u8 ((b :: r).getD i 0))) (hlc : r.length + 1 ≤ c) (hcm : c ≤ 9223372036854775807) (hl47 : r.length + 1 ≤ 140737488355328) (hW : decW b = W) (h0 : 0 < W) (hs : r.length < W) :
    Calls Try.prog 81 #[.slice (some ⟨pb, po, none⟩) (r.length + 1) c] w (CutPost (b :: r) w) := by
  have PW := Lib.hid (pwidth b w)
  rw [hW] at PW
  have c0 := hc 0 (by omega)
  rw [List.getD_cons_zero, Nat.add_zero] at c0
  have HE := Lib.hid (show decE (b :: r) = 50 from by rw [decE_W hW h0, if_pos hs])
  have e1 : ((W : Int) == 0) = false := beq_false_of_ne (by omega)
  have e2 : decide ((r.length : Int) + 1 ≤ (W : Int)) = true := decide_eq_true (by omega)
  have e3 : decide (r.length + 1 ≤ W) = true := decide_eq_true (by omega)
  have e4 : r.length + 1 ≤ W := by omega
  clear hc hW
  generalize decL b = L at *
  go_enter Try.func81, Try.ntmps81
  go_wp2_with fail
  refine PW.out.mono ?_
  rintro e w1 ⟨rfl, rfl⟩
  go_wp2
  exact bodyPost_ret (results_tmp3 Try.results81 _ _ _) rfl (CutPost.err HE.out (by decide) (Below.refl _ _))
set_option maxHeartbeats 3200000 in
theorem pcutW (b : Int) (r : List Int) (W : Nat) (pb po c : Nat) (w : World) (hc : ∀ i, i < r.length + 1 → w.cell? ⟨pb, po + i, none⟩ = some (.int .u8 ((b :: r).getD i 0))) (hr : ∀ y ∈ r, 0 ≤ y ∧ y ≤ 255) (hlc : r.length + 1 ≤ c) (hcm : c ≤ 9223372036854775807) (hl47 : r.length + 1 ≤ 140737488355328) (hW : decW b = W) (h0 : 0 < W) (hs : W ≤ r.length) :
    Calls Try.prog 81 #[.slice (some ⟨pb, po, none⟩) (r.length + 1) c] w (CutPost (b :: r) w) := by
  have hW8 : W ≤ 8 := by rw [← hW]; exact decW_le b
  have PW := Lib.hid (pwidth b w)
  rw [hW] at PW
  have c0 := hc 0 (by omega)
  rw [List.getD_cons_zero, Nat.add_zero] at c0
  have HE := Lib.hid (show decE (b :: r) = if leN (r.take W) < decL b then 51 else 0 from by rw [decE_W hW h0, if_neg (by omega)])
  have HN := Lib.hid (decN_W (r := r) hW h0)
  have HT := Lib.hid (show (r.take W).length = W from by rw [List.length_take]; omega)
  have HRT := Lib.hid (show ∀ y ∈ r.take W, 0 ≤ y ∧ y ≤ 255 from fun y hy => hr y (List.mem_of_mem_take hy))
  have HC := Lib.hid (show ∀ k, k < W → w.cell? ⟨pb, po + 1 + k, none⟩ = some (.int .u8 ((r.take W).getD k 0)) from fun k hk => by
    rw [Nat.add_assoc, hc (1 + k) (by omega), Nat.add_comm 1 k, List.getD_cons_succ]
    congr 2
    rw [List.getD_eq_getElem?_getD, List.getD_eq_getElem?_getD, List.getElem?_take, if_pos hk])
  have HR := Lib.hid (show ∀ m p, (W + 1 < r.length + 1 → p = some ⟨pb, po + (W + 1), none⟩) → (∃ a, p = some a) → CutAt (w.drewN m) (.slice p (r.length - W) (c - (W + 1))) (decR (b :: r)) from fun m p hp ha => by
    have e : decR (b :: r) = (b :: r).drop (W + 1) := by unfold decR; simp only; rw [hW]; rfl
    have hl : (decR (b :: r)).length = r.length - W := by rw [e]; simp
    refine ⟨p, c - (W + 1), by rw [hl], ?_, by rw [hl]; omega, ⟨by omega, by rw [hl]; omega⟩, ha⟩
    rw [e]
    exact bytes_in_drop (w := w.drewN m) hc (by simp) (W + 1) p hp)
  have e1 : ((W : Int) == 0) = false := beq_false_of_ne (by omega)
  have e2 : decide ((r.length : Int) + 1 ≤ (W : Int)) = false := decide_eq_false (by omega)
  have e3 : decide (r.length + 1 ≤ W) = false := decide_eq_false (by omega)
  have hsl := Lib.hid hs
  obtain ⟨N, hN⟩ : ∃ N, N = r.length := ⟨_, rfl⟩
  rw [← hN] at e2 e3 hlc hs HR ⊢
  have HNN := Lib.hid hN
  have s1 : IntKind.i64.wrap (1 + (W : Int)) = 1 + (W : Int) := by rw [IntKind.wrap_i64]; omega
  have s2 : (1 : Int) ≤ 1 + (W : Int) := by omega
  have s3 : 1 + (W : Int) ≤ (N : Int) + 1 := by omega
  have s4 : 1 + (W : Int) ≤ (c : Int) := by omega
  have s5 : (1 + (W : Int)).toNat = 1 + W := by omega
  have s6 : 0 ≤ 1 + (W : Int) := by omega
  have s7 : ¬ 1 + W = 1 := by omega
  have hcn : ¬ c = 1 := by omega
  clear hc hW hN hr
  generalize hL : decL b = L at *
  go_enter Try.func81, Try.ntmps81
  go_wp2_with fail
  refine PW.out.mono ?_
  rintro e w1 ⟨rfl, rfl⟩
  go_wp2
  go_loopg [7, 39] W (fun gh s i wx => ∃ k t : Nat, k ≤ W ∧ s = .int .u64 (t : Int) ∧ i = .int .i64 (k : Int) ∧ gh = W - k ∧ Hid (t = leN ((r.take W).take k)) ∧ wx = w)
  case atStart => exact ⟨0, 0, Nat.zero_le _, rfl, rfl, rfl, by rw [List.take_zero]; rfl, rfl⟩
  case round =>
    obtain ⟨k, t, hk, rfl, rfl, hg, HTT, hwx⟩ := hrel
    obtain rfl : w = wr := hwx.symm
    have HGK := Lib.hid hg
    clear hg
    by_cases hlt : k < W
    · have cb := HC.out k hlt
      have hst := le_step (r.take W) HRT.out k (by rw [HT.out]; exact hlt) (by rw [HT.out]; exact hW8)
      have hx := getD_rng HRT.out k
      generalize (r.take W).getD k 0 = x at *
      rw [← HTT.out] at hst
      generalize hu : leN ((r.take W).take (k + 1)) = u at *
      have HU := Lib.hid hu
      obtain ⟨hx0, hx1⟩ := hx
      have a2 : IntKind.i64.wrap (8 * (k : Int)) = 8 * (k : Int) := by rw [IntKind.wrap_i64]; omega
      have hux : IntKind.u64.wrap x = x := IntWalk.u64_in _ (by omega)
      clear hu
      go_wp2
      go_roundg (W - (k + 1))
      case measure => rw [HGK.out]; omega
      case rel => exact ⟨k + 1, u, hlt, rfl, rfl, rfl, HU.out.symm, rfl⟩
    · obtain rfl : k = W := by omega
      have ht : t = leN (r.take k) := by rw [HTT.out, List.take_of_length_le (by rw [HT.out]; exact Nat.le_refl _)]
      rw [← ht] at HE HN
      clear ht HTT
      by_cases hlL : t < L
      · have HE2 := Lib.hid (show decE (b :: r) = 51 from by rw [HE.out, if_pos hlL])
        have d1 : decide ((t : Int) < (L : Int)) = true := decide_eq_true (by omega)
        have d2 : decide (t < L) = true := decide_eq_true hlL
        go_wp2
        exact bodyPost_ret (results_tmp3 Try.results81 _ _ _) rfl (CutPost.err HE2.out (by decide) (Below.refl _ _))
      · have HE2 := Lib.hid (show decE (b :: r) = 0 from by rw [HE.out, if_neg hlL])
        have d1 : decide ((t : Int) < (L : Int)) = false := decide_eq_false (by omega)
        have d2 : decide (t < L) = false := decide_eq_false hlL
        have HN2 := Lib.hid (show (t : Int) = (decN (b :: r) : Int) from by rw [HN.out])
        clear hlL HE HN
        have u1 : IntKind.i64.wrap (1 + (k : Int)) = 1 + (k : Int) := s1
        have u2 : N + 1 - (1 + k) = N - k := by omega
        have u3 : 1 + k ≤ N + 1 := by omega
        have HP := Lib.hid (show ∀ m, CutAt (w.drewN m) (.slice (if c = 1 + k then some ⟨pb, po, none⟩ else some ⟨pb, po + (1 + k), none⟩) (N - k) (c - (1 + k))) (decR (b :: r)) from fun m => by
          have := HR.out m (if c = 1 + k then some ⟨pb, po, none⟩ else some ⟨pb, po + (1 + k), none⟩) (fun h => by rw [if_neg (by omega), Nat.add_comm k 1]) (by split <;> exact ⟨_, rfl⟩)
          rw [Nat.add_comm k 1] at this; exact this)
        generalize hpp : (if c = 1 + k then some (⟨pb, po, none⟩ : Addr) else some ⟨pb, po + (1 + k), none⟩) = pp at *
        go_upto_region 16 with fail
        refine wp_region_held_drew (S := fun w' => w' = w.drew) (by kernel_rfl) rfl (fun hS => ?_)
        refine wpAnyH_take (i := 0) (oi := ⟨_, _, _, _, _, _⟩) (v := ?_) rfl (by kernel_rfl) (by kernel_rfl) (by kernel_rfl) (fun _ _ _ h => h) (Or.inl ⟨by rfl, ?_⟩) hS ?_
        rotate_left
        · intro w0 hs; subst hs; go_simp; try (with_reducible rfl)
        try simp only [Act.put, List.setIfInBounds_toArray, List.set_cons_zero, List.set_cons_succ]
        refine wpAnyH_take (i := 1) (oi := ⟨_, _, _, _, _, _⟩) (v := ?_) rfl (by kernel_rfl) (by kernel_rfl) (by kernel_rfl) (fun _ _ _ h => h) (Or.inl ⟨by rfl, ?_⟩) hS ?_
        rotate_left
        · intro w0 hs; subst hs; go_simp; try (with_reducible rfl)
        try simp only [Act.put, List.setIfInBounds_toArray, List.set_cons_zero, List.set_cons_succ]
        refine wpAnyH_take (i := 2) (oi := ⟨_, _, _, _, _, _⟩) (v := ?_) rfl (by kernel_rfl) (by kernel_rfl) (by kernel_rfl) (fun _ _ _ h => h) (Or.inl ⟨by rfl, ?_⟩) hS ?_
        rotate_left
        · intro w0 hs; subst hs; go_simp; try (with_reducible rfl)
        try simp only [Act.put, List.setIfInBounds_toArray, List.set_cons_zero, List.set_cons_succ]
        refine wpAnyH_take (i := 3) (oi := ⟨_, _, _, _, _, _⟩) (v := ?_) rfl (by kernel_rfl) (by kernel_rfl) (by kernel_rfl) (fun _ _ _ h => h) (Or.inl ⟨by rfl, ?_⟩) hS ?_
        rotate_left
        · intro w0 hs; subst hs; go_simp; try (with_reducible rfl)
        try simp only [Act.put, List.setIfInBounds_toArray, List.set_cons_zero, List.set_cons_succ]
        refine wpAnyH_take (i := 4) (oi := ⟨_, _, _, _, _, _⟩) (v := ?_) rfl (by kernel_rfl) (by kernel_rfl) (by kernel_rfl) (fun _ _ _ h => h) (Or.inl ⟨by rfl, ?_⟩) hS ?_
        rotate_left
        · intro w0 hs; subst hs; go_simp; try (with_reducible rfl)
        try simp only [Act.put, List.setIfInBounds_toArray, List.set_cons_zero, List.set_cons_succ]
        refine wpAnyH_take (i := 5) (oi := ⟨_, _, _, _, _, _⟩) (v := ?_) rfl (by kernel_rfl) (by kernel_rfl) (by kernel_rfl) (fun _ _ _ h => h) (Or.inl ⟨by rfl, ?_⟩) hS ?_
        rotate_left
        · intro w0 hs; subst hs; go_simp; try (with_reducible rfl)
        try simp only [Act.put, List.setIfInBounds_toArray, List.set_cons_zero, List.set_cons_succ]
        refine wpAnyH_take (i := 6) (oi := ⟨_, _, _, _, _, _⟩) (v := ?_) rfl (by kernel_rfl) (by kernel_rfl) (by kernel_rfl) (fun _ _ _ h => h) (Or.inl ⟨by rfl, ?_⟩) hS ?_
        rotate_left
        · intro w0 hs; subst hs; go_simp; try (with_reducible rfl)
        try simp only [Act.put, List.setIfInBounds_toArray, List.set_cons_zero, List.set_cons_succ]
        refine wpAnyH_take (i := 7) (oi := ⟨_, _, _, _, _, _⟩) (v := ?_) rfl (by kernel_rfl) (by kernel_rfl) (by kernel_rfl) (fun _ _ _ h => h) (Or.inl ⟨by rfl, ?_⟩) hS ?_
        rotate_left
        · intro w0 hs; subst hs; go_simp; try (with_reducible rfl)
        try simp only [Act.put, List.setIfInBounds_toArray, List.set_cons_zero, List.set_cons_succ]
        refine wpAnyH_done (by kernel_rfl) ?_ _
        go_wp2
        exact bodyPost_ret (results_tmp3 Try.results81 _ _ _) rfl (CutPost.ok HE2.out HN2.out (HP.out 1) (below_drewN w 1))
end Go.Proofs.Ytppcccocnmhbgaa
