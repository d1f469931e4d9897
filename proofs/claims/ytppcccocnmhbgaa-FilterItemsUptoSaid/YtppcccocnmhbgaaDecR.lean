/- Counts read: the document's Decode. -/
import Derived.Test.YtppcccocnmhbgaaDecB
namespace Go.Proofs.Ytppcccocnmhbgaa
open Go Go.RowKit
set_option linter.unusedSimpArgs false
set_option linter.unusedVariables false
set_option maxRecDepth 100000

theorem encS_len_iff {b : Int} {W n : Nat} (hW : decW b = W) (h0 : 0 < W) (hn : n < 256 ^ W) : (encS n).length ≠ W + 1 ↔ n < decL b := by
  unfold decW at hW
  unfold decL
  by_cases h1 : b = 253
  · rw [if_pos h1] at hW ⊢
    subst hW
    rw [show (256 : Nat) ^ 2 = 65536 from rfl] at hn
    by_cases h : n < 253
    · rw [encS_1 h]; simp [h]
    · rw [encS_3 h (by omega), List.length_cons, leB_length]; simp [h]
  · rw [if_neg h1] at hW ⊢
    by_cases h2 : b = 254
    · rw [if_pos h2] at hW ⊢
      subst hW
      rw [show (256 : Nat) ^ 4 = 4294967296 from rfl] at hn
      by_cases h : n < 253
      · rw [encS_1 h]; simp; omega
      · by_cases h5 : n ≤ 65535
        · rw [encS_3 h h5, List.length_cons, leB_length]; simp; omega
        · rw [encS_5 h h5 (by omega), List.length_cons, leB_length]; simp; omega
    · rw [if_neg h2] at hW ⊢
      by_cases h3 : b = 255
      · rw [if_pos h3] at hW ⊢
        subst hW
        by_cases h : n < 253
        · rw [encS_1 h]; simp; omega
        · by_cases h5 : n ≤ 65535
          · rw [encS_3 h h5, List.length_cons, leB_length]; simp; omega
          · by_cases h6 : n ≤ 4294967295
            · rw [encS_5 h h5 h6, List.length_cons, leB_length]; simp; omega
            · rw [encS_9 h h5 h6, List.length_cons, leB_length]; simp; omega
      · rw [if_neg h3] at hW; omega
theorem DecPost.err {bs : List Int} {w w' : World} {E : Int} (h : decE bs = E) (hE : E ≠ 0) (hb : Below w.heap.size w w') : DecPost bs w (.returned (.tuple #[.int .u64 0, .slice none 0 0, .int .i64 E])) w' :=
  ⟨0, _, by rw [h], hb, fun h0 => absurd (h.symm.trans h0) hE, fun _ => ⟨rfl, rfl⟩⟩
theorem DecPost.ok {bs : List Int} {w w' : World} {x : Int} {v : Value} {o : Option Nat} (h : decE bs = 0) (hx : x = (decN bs : Int)) (hv : Row w' 5 v (decR bs) o) (ho : ∀ g, o = some g → w.heap.size ≤ g) (hb : Below w.heap.size w w') : DecPost bs w (.returned (.tuple #[.int .u64 x, v, .int .i64 0])) w' :=
  ⟨x, v, by rw [h], hb, fun _ => ⟨hx, o, hv, ho⟩, fun h1 => absurd h h1⟩
theorem rdec_nil (q : Option Addr) (c : Nat) (w : World) : Calls Try.prog 54 #[.slice q 0 c] w (DecPost [] w) := by
  go_enter Try.func54, Try.ntmps54
  go_wp2
  exact bodyPost_ret (results_tmp3 Try.results54 _ _ _) rfl (DecPost.err rfl (by decide) (Below.refl _ _))
/-- the copy of what stands behind -/
theorem tail_run (w w0 : World) (hb0 : Below w.heap.size w w0) (xs : List Int) (p : Option Addr) (c : Nat) (hx : Lib.BytesIn w p xs.length xs) (hl : xs.length ≤ 140737488355328) :
    ∃ p1 c1 w1 o1, (Builtin.append_ #[26, 26] 26 #[.slice (some ⟨w0.heap.size, 0, none⟩) 0 0, .slice p xs.length c]).run Try.prog (w0.alloc (.cells #[] 5)) = .ok (.slice p1 xs.length c1) w1 ∧ Row w1 5 (.slice p1 xs.length c1) xs o1 ∧ (∀ g, o1 = some g → w.heap.size ≤ g) ∧ Below w.heap.size w w1 := by
  obtain ⟨i0, hi, hz0, hz1, hz2⟩ := info_parts u8inf
  have K0 : Keep (fun _ => False) w (w0.alloc (.cells #[] 5)) := Keep.of_below (hb0.alloc hb0.size _)
  have R0 : Row (w0.alloc (.cells #[] 5)) 5 (.slice (some ⟨w0.heap.size, 0, none⟩) 0 0) [] (some w0.heap.size) := .inr ⟨w0.heap.size, 0, #[], rfl, rfl, Blk.new _ _ _, Nat.le_refl _, Nat.le_refl _, Nat.zero_le _, rfl⟩
  obtain ⟨v1, w1, o1, run1, R1, ho1, k1⟩ := row_appendL (P := Try.prog) 26 26 i0 (.int .u8 0) Try.underlying26 hi hz0 hz1 hz2 rfl R0 (c := c) (bytes_keep hx K0 (fun _ _ _ h => h)) (by simpa using hl)
  rw [List.nil_append] at R1
  obtain ⟨p1, c1, rfl, _⟩ := R1.form
  obtain ⟨g1, B1⟩ := own_step (w0 := w) (G := w.heap.size) rfl (hb0.alloc hb0.size _) (fun g hg => by cases hg; exact hb0.size) ho1 k1
  exact ⟨p1, c1, w1, o1, run1, R1, g1, B1⟩
set_option maxHeartbeats 3200000 in
theorem rdec0 (b : Int) (r : List Int) (pb po c : Nat) (w : World) (hc : ∀ i, i < r.length + 1 → w.cell? ⟨pb, po + i, none⟩ = some (.int .u8 ((b :: r).getD i 0))) (hr : 0 ≤ b ∧ b ≤ 255) (hlc : r.length + 1 ≤ c) (hcm : c ≤ 9223372036854775807) (hl47 : r.length + 1 ≤ 140737488355328) (hW : decW b = 0) :
    Calls Try.prog 54 #[.slice (some ⟨pb, po, none⟩) (r.length + 1) c] w (DecPost (b :: r) w) := by
  obtain ⟨n, rfl⟩ := Int.eq_ofNat_of_zero_le hr.1
  have h3 : n ≠ 253 ∧ n ≠ 254 ∧ n ≠ 255 := by
    unfold decW at hW
    refine ⟨fun h => ?_, fun h => ?_, fun h => ?_⟩ <;> subst h <;> simp at hW
  have hn : n < 253 := by omega
  have PE := Lib.hid (renc1 n hn w)
  have c0 := hc 0 (by omega)
  rw [List.getD_cons_zero, Nat.add_zero] at c0
  have hbw : IntKind.u64.wrap ((n : Nat) : Int) = (n : Int) := IntWalk.u64_in _ (by omega)
  have HE := Lib.hid (show decE (((n : Nat) : Int) :: r) = 0 from if_pos hW)
  have HN := Lib.hid (show ((n : Nat) : Int) = (decN (((n : Nat) : Int) :: r) : Int) from by unfold decN; simp only; rw [if_pos hW]; omega)
  have hdr : decR (((n : Nat) : Int) :: r) = r := by unfold decR; simp only; rw [hW, List.drop_zero]
  have HT := Lib.hid (show ∀ w0 : World, Below w.heap.size w w0 → _ from fun w0 hb => tail_run w w0 hb r (if c = 1 then some ⟨pb, po, none⟩ else some ⟨pb, po + 1, none⟩) (c - 1) (by
    have := bytes_in_drop (w := w) hc (by simp) 1 (if c = 1 then some ⟨pb, po, none⟩ else some ⟨pb, po + 1, none⟩) (fun h => by rw [if_neg (by omega)])
    simpa using this) (by omega))
  have HDR := Lib.hid hdr
  have e1 : (((n : Nat) : Int) == 253) = false := beq_false_of_ne (by omega)
  have e2 : (((n : Nat) : Int) == 254) = false := beq_false_of_ne (by omega)
  have e3 : (((n : Nat) : Int) == 255) = false := beq_false_of_ne (by omega)
  have k0 : ¬ ((r.length : Int) + 1 < 1) := by omega
  have k1 : decide ((r.length : Int) + 1 < 1) = false := decide_eq_false (by omega)
  clear hc hW hr h3 hn hdr
  go_enter Try.func54, Try.ntmps54
  go_wp2_with fail
  refine PE.out.mono ?_
  rintro e w1 ⟨p1, c1, o1, rfl, _, _, hb1⟩
  obtain ⟨p2, c2, w2, o2, run2, R2, ho2, hb2⟩ := HT.out w1 hb1
  have H2 := Lib.hid (And.intro R2 (And.intro ho2 hb2))
  clear R2 ho2 hb2 hb1
  go_wp2_with (at_builtin; refine wpl_append rfl _ _ 26 rfl rfl rfl run2 ?_)
  all_goals exact bodyPost_ret (results_tmp3 Try.results54 _ _ _) rfl (DecPost.ok HE.out HN.out (by rw [HDR.out]; exact H2.out.1) H2.out.2.1 H2.out.2.2)
set_option maxHeartbeats 3200000 in
theorem rdec2s (r : List Int) (pb po c : Nat) (w : World) (hc : ∀ i, i < r.length + 1 → w.cell? ⟨pb, po + i, none⟩ = some (.int .u8 ((253 :: r).getD i 0))) (hlc : r.length + 1 ≤ c) (hcm : c ≤ 9223372036854775807) (hl47 : r.length + 1 ≤ 140737488355328) (hs : r.length < 2) :
    Calls Try.prog 54 #[.slice (some ⟨pb, po, none⟩) (r.length + 1) c] w (DecPost (253 :: r) w) := by
  have c0 := hc 0 (by omega)
  rw [List.getD_cons_zero, Nat.add_zero] at c0
  have HE := Lib.hid (show decE (253 :: r) = 50 from by rw [decE_W (W := 2) rfl (by decide), if_pos hs])
  have k1 : decide ((r.length : Int) + 1 < 3) = true := decide_eq_true (by omega)
  have k2 : (r.length : Int) + 1 < 3 := by omega
  clear hc hs
  go_enter Try.func54, Try.ntmps54
  go_wp2
  exact bodyPost_ret (results_tmp3 Try.results54 _ _ _) rfl (DecPost.err HE.out (by decide) (Below.refl _ _))
set_option maxHeartbeats 3200000 in
theorem rdec2 (r : List Int) (pb po c : Nat) (w : World) (hc : ∀ i, i < r.length + 1 → w.cell? ⟨pb, po + i, none⟩ = some (.int .u8 ((253 :: r).getD i 0))) (hr : ∀ y ∈ r, 0 ≤ y ∧ y ≤ 255) (hlc : r.length + 1 ≤ c) (hcm : c ≤ 9223372036854775807) (hl47 : r.length + 1 ≤ 140737488355328) (hs : 2 ≤ r.length) :
    Calls Try.prog 54 #[.slice (some ⟨pb, po, none⟩) (r.length + 1) c] w (DecPost (253 :: r) w) := by
  have c0 := hc 0 (by omega)
  rw [List.getD_cons_zero, Nat.add_zero] at c0
  have hT : (r.take 2).length = 2 := by rw [List.length_take]; omega
  have hRT : ∀ y ∈ r.take 2, 0 ≤ y ∧ y ≤ 255 := fun y hy => hr y (List.mem_of_mem_take hy)
  have PN := rnum (r.take 2) (some ⟨pb, po + 1, none⟩) (c - 1) w (fun _ => ⟨pb, po + 1, rfl, fun k hk => by
    rw [hT] at hk
    rw [Nat.add_assoc, hc (1 + k) (by omega), Nat.add_comm 1 k, List.getD_cons_succ]
    congr 2
    rw [List.getD_eq_getElem?_getD, List.getD_eq_getElem?_getD, List.getElem?_take, if_pos hk]⟩) hRT (by rw [hT]; decide)
  rw [hT] at PN
  have hlt := leN_lt (r.take 2) hRT
  rw [hT] at hlt
  have hiff := encS_len_iff (b := 253) (W := 2) rfl (by decide) hlt
  have HE := Lib.hid (show decE (253 :: r) = if leN (r.take 2) < decL 253 then 51 else 0 from by rw [decE_W (W := 2) rfl (by decide), if_neg (by omega)])
  have HN := Lib.hid (decN_W (r := r) (b := 253) (W := 2) rfl (by decide))
  have hdr : decR (253 :: r) = r.drop 2 := rfl
  have hdl : (r.drop 2).length = r.length - 2 := List.length_drop
  have HT := Lib.hid (show ∀ w0 : World, Below w.heap.size w w0 → _ from fun w0 hb => tail_run w w0 hb (r.drop 2) (if c = 3 then some ⟨pb, po, none⟩ else some ⟨pb, po + 3, none⟩) (c - 3) (by
    have := bytes_in_drop (w := w) hc (by simp) 3 (if c = 3 then some ⟨pb, po, none⟩ else some ⟨pb, po + 3, none⟩) (fun h => by rw [if_neg (by omega)])
    simpa using this) (by rw [hdl]; omega))
  rw [hdl] at HT
  have HDR := Lib.hid hdr
  have PNN := Lib.hid PN
  obtain ⟨n, hn⟩ : ∃ n, n = leN (r.take 2) := ⟨_, rfl⟩
  rw [← hn] at hiff HE HN PNN
  have PE := Lib.hid (fun w => renc n (by rw [hn]; exact Nat.lt_of_lt_of_le hlt (by decide)) w)
  obtain ⟨N, hNN⟩ : ∃ N, N = r.length := ⟨_, rfl⟩
  rw [← hNN] at hlc HT hs ⊢
  have k1 : decide ((N : Int) + 1 < 3) = false := decide_eq_false (by omega)
  have k2 : ¬ ((N : Int) + 1 < 3) := by omega
  have k3 : (3 : Int) ≤ (c : Int) := by omega
  have k4 : (3 : Int) ≤ (N : Int) + 1 := by omega
  have k5 : (N : Int) + 1 ≤ (c : Int) := by omega
  have k6 : N + 1 - 3 = N - 2 := by omega
  have k7 : ¬ c = 1 := by omega
  have HS := Lib.hid hs
  clear hc hr hs hn hT hRT hlt hdr hdl PN hNN
  by_cases hlL : n < decL 253
  · have HE2 := Lib.hid (show decE (253 :: r) = 51 from by rw [HE.out, if_pos hlL])
    have hne := hiff.2 hlL
    generalize hm : (encS n).length = m at *
    have hmm : ((m : Int) != 3) = true := by rw [bne_iff_ne]; omega
    clear hiff hlL HE hne
    go_enter Try.func54, Try.ntmps54
    go_wp2_with fail
    refine PNN.out.mono ?_
    rintro e w1 ⟨rfl, rfl⟩
    go_wp2_with fail
    refine (PE.out _).mono ?_
    rintro e w1 ⟨p1, c1, o1, rfl, _, _, hb1⟩
    have HB := Lib.hid hb1
    clear hb1
    go_wp2
    exact bodyPost_ret (results_tmp3 Try.results54 _ _ _) rfl (DecPost.err HE2.out (by decide) HB.out)
  · have HE2 := Lib.hid (show decE (253 :: r) = 0 from by rw [HE.out, if_neg hlL])
    have hne : (encS n).length = 2 + 1 := by
      rcases Nat.decEq (encS n).length (2 + 1) with h | h
      · exact absurd (hiff.1 h) hlL
      · exact h
    have HN2 := Lib.hid (show (n : Int) = (decN (253 :: r) : Int) from by rw [HN.out])
    rw [hne] at PE
    clear hiff hlL HE hne HN
    go_enter Try.func54, Try.ntmps54
    go_wp2_with fail
    refine PNN.out.mono ?_
    rintro e w1 ⟨rfl, rfl⟩
    go_wp2_with fail
    refine (PE.out _).mono ?_
    rintro e w1 ⟨p1, c1, o1, rfl, _, _, hb1⟩
    obtain ⟨p2, c2, w2, o2, run2, R2, ho2, hb2⟩ := HT.out w1 hb1
    have H2 := Lib.hid (And.intro R2 (And.intro ho2 hb2))
    clear R2 ho2 hb2 hb1
    go_wp2_with (at_builtin; refine wpl_append rfl _ _ 26 rfl rfl rfl run2 ?_)
    all_goals exact bodyPost_ret (results_tmp3 Try.results54 _ _ _) rfl (DecPost.ok HE2.out HN2.out (by rw [HDR.out]; exact H2.out.1) H2.out.2.1 H2.out.2.2)
set_option maxHeartbeats 3200000 in
theorem rdec4s (r : List Int) (pb po c : Nat) (w : World) (hc : ∀ i, i < r.length + 1 → w.cell? ⟨pb, po + i, none⟩ = some (.int .u8 ((254 :: r).getD i 0))) (hlc : r.length + 1 ≤ c) (hcm : c ≤ 9223372036854775807) (hl47 : r.length + 1 ≤ 140737488355328) (hs : r.length < 4) :
    Calls Try.prog 54 #[.slice (some ⟨pb, po, none⟩) (r.length + 1) c] w (DecPost (254 :: r) w) := by
  have c0 := hc 0 (by omega)
  rw [List.getD_cons_zero, Nat.add_zero] at c0
  have HE := Lib.hid (show decE (254 :: r) = 50 from by rw [decE_W (W := 4) rfl (by decide), if_pos hs])
  have k1 : decide ((r.length : Int) + 1 < 5) = true := decide_eq_true (by omega)
  have k2 : (r.length : Int) + 1 < 5 := by omega
  clear hc hs
  go_enter Try.func54, Try.ntmps54
  go_wp2
  exact bodyPost_ret (results_tmp3 Try.results54 _ _ _) rfl (DecPost.err HE.out (by decide) (Below.refl _ _))
set_option maxHeartbeats 3200000 in
theorem rdec4 (r : List Int) (pb po c : Nat) (w : World) (hc : ∀ i, i < r.length + 1 → w.cell? ⟨pb, po + i, none⟩ = some (.int .u8 ((254 :: r).getD i 0))) (hr : ∀ y ∈ r, 0 ≤ y ∧ y ≤ 255) (hlc : r.length + 1 ≤ c) (hcm : c ≤ 9223372036854775807) (hl47 : r.length + 1 ≤ 140737488355328) (hs : 4 ≤ r.length) :
    Calls Try.prog 54 #[.slice (some ⟨pb, po, none⟩) (r.length + 1) c] w (DecPost (254 :: r) w) := by
  have c0 := hc 0 (by omega)
  rw [List.getD_cons_zero, Nat.add_zero] at c0
  have hT : (r.take 4).length = 4 := by rw [List.length_take]; omega
  have hRT : ∀ y ∈ r.take 4, 0 ≤ y ∧ y ≤ 255 := fun y hy => hr y (List.mem_of_mem_take hy)
  have PN := rnum (r.take 4) (some ⟨pb, po + 1, none⟩) (c - 1) w (fun _ => ⟨pb, po + 1, rfl, fun k hk => by
    rw [hT] at hk
    rw [Nat.add_assoc, hc (1 + k) (by omega), Nat.add_comm 1 k, List.getD_cons_succ]
    congr 2
    rw [List.getD_eq_getElem?_getD, List.getD_eq_getElem?_getD, List.getElem?_take, if_pos hk]⟩) hRT (by rw [hT]; decide)
  rw [hT] at PN
  have hlt := leN_lt (r.take 4) hRT
  rw [hT] at hlt
  have hiff := encS_len_iff (b := 254) (W := 4) rfl (by decide) hlt
  have HE := Lib.hid (show decE (254 :: r) = if leN (r.take 4) < decL 254 then 51 else 0 from by rw [decE_W (W := 4) rfl (by decide), if_neg (by omega)])
  have HN := Lib.hid (decN_W (r := r) (b := 254) (W := 4) rfl (by decide))
  have hdr : decR (254 :: r) = r.drop 4 := rfl
  have hdl : (r.drop 4).length = r.length - 4 := List.length_drop
  have HT := Lib.hid (show ∀ w0 : World, Below w.heap.size w w0 → _ from fun w0 hb => tail_run w w0 hb (r.drop 4) (if c = 5 then some ⟨pb, po, none⟩ else some ⟨pb, po + 5, none⟩) (c - 5) (by
    have := bytes_in_drop (w := w) hc (by simp) 5 (if c = 5 then some ⟨pb, po, none⟩ else some ⟨pb, po + 5, none⟩) (fun h => by rw [if_neg (by omega)])
    simpa using this) (by rw [hdl]; omega))
  rw [hdl] at HT
  have HDR := Lib.hid hdr
  have PNN := Lib.hid PN
  obtain ⟨n, hn⟩ : ∃ n, n = leN (r.take 4) := ⟨_, rfl⟩
  rw [← hn] at hiff HE HN PNN
  have PE := Lib.hid (fun w => renc n (by rw [hn]; exact Nat.lt_of_lt_of_le hlt (by decide)) w)
  obtain ⟨N, hNN⟩ : ∃ N, N = r.length := ⟨_, rfl⟩
  rw [← hNN] at hlc HT hs ⊢
  have k1 : decide ((N : Int) + 1 < 5) = false := decide_eq_false (by omega)
  have k2 : ¬ ((N : Int) + 1 < 5) := by omega
  have k3 : (5 : Int) ≤ (c : Int) := by omega
  have k4 : (5 : Int) ≤ (N : Int) + 1 := by omega
  have k5 : (N : Int) + 1 ≤ (c : Int) := by omega
  have k6 : N + 1 - 5 = N - 4 := by omega
  have k7 : ¬ c = 1 := by omega
  have HS := Lib.hid hs
  clear hc hr hs hn hT hRT hlt hdr hdl PN hNN
  by_cases hlL : n < decL 254
  · have HE2 := Lib.hid (show decE (254 :: r) = 51 from by rw [HE.out, if_pos hlL])
    have hne := hiff.2 hlL
    generalize hm : (encS n).length = m at *
    have hmm : ((m : Int) != 5) = true := by rw [bne_iff_ne]; omega
    clear hiff hlL HE hne
    go_enter Try.func54, Try.ntmps54
    go_wp2_with fail
    refine PNN.out.mono ?_
    rintro e w1 ⟨rfl, rfl⟩
    go_wp2_with fail
    refine (PE.out _).mono ?_
    rintro e w1 ⟨p1, c1, o1, rfl, _, _, hb1⟩
    have HB := Lib.hid hb1
    clear hb1
    go_wp2
    exact bodyPost_ret (results_tmp3 Try.results54 _ _ _) rfl (DecPost.err HE2.out (by decide) HB.out)
  · have HE2 := Lib.hid (show decE (254 :: r) = 0 from by rw [HE.out, if_neg hlL])
    have hne : (encS n).length = 4 + 1 := by
      rcases Nat.decEq (encS n).length (4 + 1) with h | h
      · exact absurd (hiff.1 h) hlL
      · exact h
    have HN2 := Lib.hid (show (n : Int) = (decN (254 :: r) : Int) from by rw [HN.out])
    rw [hne] at PE
    clear hiff hlL HE hne HN
    go_enter Try.func54, Try.ntmps54
    go_wp2_with fail
    refine PNN.out.mono ?_
    rintro e w1 ⟨rfl, rfl⟩
    go_wp2_with fail
    refine (PE.out _).mono ?_
    rintro e w1 ⟨p1, c1, o1, rfl, _, _, hb1⟩
    obtain ⟨p2, c2, w2, o2, run2, R2, ho2, hb2⟩ := HT.out w1 hb1
    have H2 := Lib.hid (And.intro R2 (And.intro ho2 hb2))
    clear R2 ho2 hb2 hb1
    go_wp2_with (at_builtin; refine wpl_append rfl _ _ 26 rfl rfl rfl run2 ?_)
    all_goals exact bodyPost_ret (results_tmp3 Try.results54 _ _ _) rfl (DecPost.ok HE2.out HN2.out (by rw [HDR.out]; exact H2.out.1) H2.out.2.1 H2.out.2.2)
set_option maxHeartbeats 3200000 in
theorem rdec8s (r : List Int) (pb po c : Nat) (w : World) (hc : ∀ i, i < r.length + 1 → w.cell? ⟨pb, po + i, none⟩ = some (.int .u8 ((255 :: r).getD i 0))) (hlc : r.length + 1 ≤ c) (hcm : c ≤ 9223372036854775807) (hl47 : r.length + 1 ≤ 140737488355328) (hs : r.length < 8) :
    Calls Try.prog 54 #[.slice (some ⟨pb, po, none⟩) (r.length + 1) c] w (DecPost (255 :: r) w) := by
  have c0 := hc 0 (by omega)
  rw [List.getD_cons_zero, Nat.add_zero] at c0
  have HE := Lib.hid (show decE (255 :: r) = 50 from by rw [decE_W (W := 8) rfl (by decide), if_pos hs])
  have k1 : decide ((r.length : Int) + 1 < 9) = true := decide_eq_true (by omega)
  have k2 : (r.length : Int) + 1 < 9 := by omega
  clear hc hs
  go_enter Try.func54, Try.ntmps54
  go_wp2
  exact bodyPost_ret (results_tmp3 Try.results54 _ _ _) rfl (DecPost.err HE.out (by decide) (Below.refl _ _))
set_option maxHeartbeats 3200000 in
theorem rdec8 (r : List Int) (pb po c : Nat) (w : World) (hc : ∀ i, i < r.length + 1 → w.cell? ⟨pb, po + i, none⟩ = some (.int .u8 ((255 :: r).getD i 0))) (hr : ∀ y ∈ r, 0 ≤ y ∧ y ≤ 255) (hlc : r.length + 1 ≤ c) (hcm : c ≤ 9223372036854775807) (hl47 : r.length + 1 ≤ 140737488355328) (hs : 8 ≤ r.length) :
    Calls Try.prog 54 #[.slice (some ⟨pb, po, none⟩) (r.length + 1) c] w (DecPost (255 :: r) w) := by
  have c0 := hc 0 (by omega)
  rw [List.getD_cons_zero, Nat.add_zero] at c0
  have hT : (r.take 8).length = 8 := by rw [List.length_take]; omega
  have hRT : ∀ y ∈ r.take 8, 0 ≤ y ∧ y ≤ 255 := fun y hy => hr y (List.mem_of_mem_take hy)
  have PN := rnum (r.take 8) (some ⟨pb, po + 1, none⟩) (c - 1) w (fun _ => ⟨pb, po + 1, rfl, fun k hk => by
    rw [hT] at hk
    rw [Nat.add_assoc, hc (1 + k) (by omega), Nat.add_comm 1 k, List.getD_cons_succ]
    congr 2
    rw [List.getD_eq_getElem?_getD, List.getD_eq_getElem?_getD, List.getElem?_take, if_pos hk]⟩) hRT (by rw [hT]; decide)
  rw [hT] at PN
  have hlt := leN_lt (r.take 8) hRT
  rw [hT] at hlt
  have hiff := encS_len_iff (b := 255) (W := 8) rfl (by decide) hlt
  have HE := Lib.hid (show decE (255 :: r) = if leN (r.take 8) < decL 255 then 51 else 0 from by rw [decE_W (W := 8) rfl (by decide), if_neg (by omega)])
  have HN := Lib.hid (decN_W (r := r) (b := 255) (W := 8) rfl (by decide))
  have hdr : decR (255 :: r) = r.drop 8 := rfl
  have hdl : (r.drop 8).length = r.length - 8 := List.length_drop
  have HT := Lib.hid (show ∀ w0 : World, Below w.heap.size w w0 → _ from fun w0 hb => tail_run w w0 hb (r.drop 8) (if c = 9 then some ⟨pb, po, none⟩ else some ⟨pb, po + 9, none⟩) (c - 9) (by
    have := bytes_in_drop (w := w) hc (by simp) 9 (if c = 9 then some ⟨pb, po, none⟩ else some ⟨pb, po + 9, none⟩) (fun h => by rw [if_neg (by omega)])
    simpa using this) (by rw [hdl]; omega))
  rw [hdl] at HT
  have HDR := Lib.hid hdr
  have PNN := Lib.hid PN
  obtain ⟨n, hn⟩ : ∃ n, n = leN (r.take 8) := ⟨_, rfl⟩
  rw [← hn] at hiff HE HN PNN
  have PE := Lib.hid (fun w => renc n (by rw [hn]; exact Nat.lt_of_lt_of_le hlt (by decide)) w)
  obtain ⟨N, hNN⟩ : ∃ N, N = r.length := ⟨_, rfl⟩
  rw [← hNN] at hlc HT hs ⊢
  have k1 : decide ((N : Int) + 1 < 9) = false := decide_eq_false (by omega)
  have k2 : ¬ ((N : Int) + 1 < 9) := by omega
  have k3 : (9 : Int) ≤ (c : Int) := by omega
  have k4 : (9 : Int) ≤ (N : Int) + 1 := by omega
  have k5 : (N : Int) + 1 ≤ (c : Int) := by omega
  have k6 : N + 1 - 9 = N - 8 := by omega
  have k7 : ¬ c = 1 := by omega
  have HS := Lib.hid hs
  clear hc hr hs hn hT hRT hlt hdr hdl PN hNN
  by_cases hlL : n < decL 255
  · have HE2 := Lib.hid (show decE (255 :: r) = 51 from by rw [HE.out, if_pos hlL])
    have hne := hiff.2 hlL
    generalize hm : (encS n).length = m at *
    have hmm : ((m : Int) != 9) = true := by rw [bne_iff_ne]; omega
    clear hiff hlL HE hne
    go_enter Try.func54, Try.ntmps54
    go_wp2_with fail
    refine PNN.out.mono ?_
    rintro e w1 ⟨rfl, rfl⟩
    go_wp2_with fail
    refine (PE.out _).mono ?_
    rintro e w1 ⟨p1, c1, o1, rfl, _, _, hb1⟩
    have HB := Lib.hid hb1
    clear hb1
    go_wp2
    exact bodyPost_ret (results_tmp3 Try.results54 _ _ _) rfl (DecPost.err HE2.out (by decide) HB.out)
  · have HE2 := Lib.hid (show decE (255 :: r) = 0 from by rw [HE.out, if_neg hlL])
    have hne : (encS n).length = 8 + 1 := by
      rcases Nat.decEq (encS n).length (8 + 1) with h | h
      · exact absurd (hiff.1 h) hlL
      · exact h
    have HN2 := Lib.hid (show (n : Int) = (decN (255 :: r) : Int) from by rw [HN.out])
    rw [hne] at PE
    clear hiff hlL HE hne HN
    go_enter Try.func54, Try.ntmps54
    go_wp2_with fail
    refine PNN.out.mono ?_
    rintro e w1 ⟨rfl, rfl⟩
    go_wp2_with fail
    refine (PE.out _).mono ?_
    rintro e w1 ⟨p1, c1, o1, rfl, _, _, hb1⟩
    obtain ⟨p2, c2, w2, o2, run2, R2, ho2, hb2⟩ := HT.out w1 hb1
    have H2 := Lib.hid (And.intro R2 (And.intro ho2 hb2))
    clear R2 ho2 hb2 hb1
    go_wp2_with (at_builtin; refine wpl_append rfl _ _ 26 rfl rfl rfl run2 ?_)
    all_goals exact bodyPost_ret (results_tmp3 Try.results54 _ _ _) rfl (DecPost.ok HE2.out HN2.out (by rw [HDR.out]; exact H2.out.1) H2.out.2.1 H2.out.2.2)
theorem rdecode (bs : List Int) (q : Option Addr) (c : Nat) (w : World) (hy : Lib.BytesIn w q bs.length bs) (hr : ∀ y ∈ bs, 0 ≤ y ∧ y ≤ 255) (hc : bs.length ≤ c) (hcm : c ≤ 9223372036854775807) (hl47 : bs.length ≤ 140737488355328) :
    Calls Try.prog 54 #[.slice q bs.length c] w (DecPost bs w) := by
  cases bs with
  | nil => exact rdec_nil q c w
  | cons b r =>
    obtain ⟨pb, po, rfl, hcl⟩ := hy.at (by simp)
    rw [List.length_cons] at hcl hc hl47 ⊢
    have hr' : ∀ y ∈ r, 0 ≤ y ∧ y ≤ 255 := fun y hy => hr y (List.mem_cons_of_mem _ hy)
    by_cases h1 : b = 253
    · subst h1
      by_cases hs : r.length < 2
      · exact rdec2s r pb po c w hcl hc hcm hl47 hs
      · exact rdec2 r pb po c w hcl hr' hc hcm hl47 (by omega)
    · by_cases h2 : b = 254
      · subst h2
        by_cases hs : r.length < 4
        · exact rdec4s r pb po c w hcl hc hcm hl47 hs
        · exact rdec4 r pb po c w hcl hr' hc hcm hl47 (by omega)
      · by_cases h3 : b = 255
        · subst h3
          by_cases hs : r.length < 8
          · exact rdec8s r pb po c w hcl hc hcm hl47 hs
          · exact rdec8 r pb po c w hcl hr' hc hcm hl47 (by omega)
        · exact rdec0 b r pb po c w hcl (hr b (List.mem_cons_self ..)) hc hcm hl47 (by unfold decW; rw [if_neg h1, if_neg h2, if_neg h3])
end Go.Proofs.Ytppcccocnmhbgaa
