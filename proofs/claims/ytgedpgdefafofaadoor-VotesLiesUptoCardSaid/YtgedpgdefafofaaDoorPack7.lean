import Derived.Test.YtgedpgdefafofaaDoorPack5
import Derived.Test.YtgedpgdefafofaaDoorPack6
section
/- A filter's numbers, plainly. -/
namespace Go.Proofs.YtgedpgdefafofaaDoor
open Go Go.RowKit
set_option linter.unusedVariables false

/-- how many ones stand ahead -/
def lead : List Bool → Nat
  | true :: t => lead t + 1
  | _ => 0
theorem lead_split : ∀ s : List Bool, s = List.replicate (lead s) true ++ s.drop (lead s) ∧ (s.drop (lead s) = [] ∨ ∃ t, s.drop (lead s) = false :: t)
  | [] => ⟨rfl, .inl rfl⟩
  | false :: t => ⟨rfl, .inr ⟨t, rfl⟩⟩
  | true :: t => by
    obtain ⟨h1, h2⟩ := lead_split t
    refine ⟨?_, h2⟩
    show true :: t = List.replicate (lead t + 1) true ++ t.drop (lead t)
    rw [List.replicate_succ, List.cons_append, ← h1]
/-- a code is read -/
def riceO (C most : Nat) (s : List Bool) : Option (Nat × List Bool) :=
  if most < lead s then none else match s.drop (lead s) with
    | [] => none
    | _ :: t => if t.length < C then none else some (lead s * 2 ^ C + valOf (t.take C), t.drop C)
/-- where it fails -/
theorem riceO_none {C most : Nat} {s : List Bool} (h : riceO C most s = none) : ∃ q T, s = List.replicate q true ++ T ∧ q ≤ most ∧ (T = [] ∨ (∃ t, T = false :: t ∧ t.length < C) ∨ (∃ t, T = true :: t ∧ q = most)) := by
  obtain ⟨h1, h2⟩ := lead_split s
  unfold riceO at h
  by_cases hm : most < lead s
  · refine ⟨most, List.replicate (lead s - most) true ++ s.drop (lead s), ?_, Nat.le_refl _, .inr (.inr ⟨List.replicate (lead s - most - 1) true ++ s.drop (lead s), ?_, rfl⟩)⟩
    · rw [← List.append_assoc, List.replicate_append_replicate, show most + (lead s - most) = lead s from by omega]; exact h1
    · rw [show lead s - most = (lead s - most - 1) + 1 from by omega, List.replicate_succ, List.cons_append]; rfl
  · rw [if_neg hm] at h
    rcases h2 with h2 | ⟨t, h2⟩
    · exact ⟨lead s, [], by rw [← h2]; exact h1, by omega, .inl rfl⟩
    · rw [h2] at h
      simp only at h
      by_cases ht : t.length < C
      · exact ⟨lead s, false :: t, by rw [← h2]; exact h1, by omega, .inr (.inl ⟨t, rfl, ht⟩)⟩
      · rw [if_neg ht] at h; cases h
theorem riceO_some {C most d : Nat} {s s' : List Bool} (h : riceO C most s = some (d, s')) : ∃ q t, s = List.replicate q true ++ false :: t ∧ q ≤ most ∧ C ≤ t.length ∧ d = q * 2 ^ C + valOf (t.take C) ∧ s' = t.drop C := by
  obtain ⟨h1, h2⟩ := lead_split s
  unfold riceO at h
  by_cases hm : most < lead s
  · rw [if_pos hm] at h; cases h
  · rw [if_neg hm] at h
    rcases h2 with h2 | ⟨t, h2⟩
    · rw [h2] at h; cases h
    · rw [h2] at h
      simp only at h
      by_cases ht : t.length < C
      · rw [if_pos ht] at h; cases h
      · rw [if_neg ht] at h
        cases h
        exact ⟨lead s, t, by rw [← h2]; exact h1, by omega, by omega, rfl, rfl⟩
/-- so many numbers are read -/
def valLoop (n : Nat) : Nat → Nat → List Bool → Option (List Nat × List Bool)
  | 0, _, s => some ([], s)
  | k + 1, sum, s => match riceO 19 (2 * n) s with
    | none => none
    | some (d, s') => if n * 784931 ≤ sum + d then none else (valLoop n k (sum + d) s').map fun (p : List Nat × List Bool) => ((sum + d) :: p.1, p.2)
/-- the numbers in a filter -/
def valuesS (bs : List Int) : Option (List Nat) :=
  if decE bs ≠ 0 ∨ 20000 < decN bs then none else match valLoop (decN bs) (decN bs) 0 (unpack (decR bs)) with
    | none => none
    | some (l, s) => if 7 < s.length then none else if valOf s ≠ 0 then none else some l
theorem valLoop_none {n k sum : Nat} {s : List Bool} (h : riceO 19 (2 * n) s = none) : valLoop n (k + 1) sum s = none := by
  unfold valLoop; rw [h]
theorem valLoop_over {n k sum d : Nat} {s s' : List Bool} (h : riceO 19 (2 * n) s = some (d, s')) (h2 : n * 784931 ≤ sum + d) : valLoop n (k + 1) sum s = none := by
  unfold valLoop; rw [h]; simp only; rw [if_pos h2]
theorem valLoop_step {n k sum d : Nat} {s s' : List Bool} (h : riceO 19 (2 * n) s = some (d, s')) (h2 : ¬ n * 784931 ≤ sum + d) : valLoop n (k + 1) sum s = (valLoop n k (sum + d) s').map fun (p : List Nat × List Bool) => ((sum + d) :: p.1, p.2) := by
  show (match riceO 19 (2 * n) s with
    | none => none
    | some (d, s') => if n * 784931 ≤ sum + d then none else (valLoop n k (sum + d) s').map fun (p : List Nat × List Bool) => ((sum + d) :: p.1, p.2)) = _
  rw [h]; simp only; rw [if_neg h2]
/-- the loop, so far: l are the numbers read, k are left -/
def ValInv (n : Nat) (S0 : List Bool) (l : List Nat) (k sum : Nat) (s : List Bool) : Prop := valLoop n n 0 S0 = (valLoop n k sum s).map fun (p : List Nat × List Bool) => (l ++ p.1, p.2)
theorem ValInv.start (n : Nat) (S0 : List Bool) : ValInv n S0 [] n 0 S0 := by
  unfold ValInv
  cases valLoop n n 0 S0 <;> simp
theorem ValInv.step {n : Nat} {S0 : List Bool} {l : List Nat} {k sum d : Nat} {s s' : List Bool} (h : ValInv n S0 l (k + 1) sum s) (h1 : riceO 19 (2 * n) s = some (d, s')) (h2 : ¬ n * 784931 ≤ sum + d) : ValInv n S0 (l ++ [sum + d]) k (sum + d) s' := by
  unfold ValInv at *
  rw [h, valLoop_step h1 h2, Option.map_map]
  congr 1
  funext p
  simp
theorem valOf_take (s : List Bool) (n : Nat) (h : s.length ≤ n) : valOf (s.take n) = valOf s := by rw [List.take_of_length_le h]
theorem rice_small {C most d : Nat} {s s' : List Bool} (h : riceO C most s = some (d, s')) : d < (most + 1) * 2 ^ C := by
  obtain ⟨q, t, _, hq, hC, rfl, _⟩ := riceO_some h
  have h1 := valOf_lt (t.take C)
  rw [List.length_take, Nat.min_eq_left hC] at h1
  have h2 : q * 2 ^ C ≤ most * 2 ^ C := Nat.mul_le_mul_right _ hq
  rw [Nat.add_mul, Nat.one_mul]
  omega
theorem vriceA (r : Nat) (s : List Bool) (most : Nat) (w : World) (h : RdAt w r s) (hm : most ≤ 1000000) :
    Calls Tryd.prog 41 #[.pointer (some ⟨r, 0, none⟩), .int .i64 19, .int .u64 (most : Int)] w fun e w' => Keep (fun k => k = r) w w' ∧ match riceO 19 most s with
      | none => ∃ x : Int, (x = 50 ∨ x = 51) ∧ e = .returned (.tuple #[.int .u64 0, .int .i64 x])
      | some (d, s') => e = .returned (.tuple #[.int .u64 (d : Int), .int .i64 0]) ∧ RdAt w' r s' := by
  cases hr : riceO 19 most s with
  | none =>
    obtain ⟨q, T, rfl, hq, hf⟩ := riceO_none hr
    exact (vriceF r q 19 most T w h hq (by omega) (by decide) hf).mono fun e w' ⟨x, hx, he, hk⟩ => ⟨hk, x, hx, he⟩
  | some p =>
    obtain ⟨d, s'⟩ := p
    obtain ⟨q, t, rfl, hq, hC, rfl, rfl⟩ := riceO_some hr
    exact (vrice r q 19 most t w h hq (by omega) (by decide) hC (by
      have : q * 2 ^ 19 ≤ 1000000 * 2 ^ 19 := Nat.mul_le_mul_right _ (by omega)
      omega)).mono fun e w' ⟨he, h1, hk⟩ => ⟨hk, he, h1⟩
theorem wriceA (r : Nat) (s : List Bool) (most : Nat) (w : World) (h : RfAt w r s) (hm : most ≤ 1000000) :
    Calls Tryd.prog 78 #[.pointer (some ⟨r, 0, none⟩), .int .i64 19, .int .u64 (most : Int)] w fun e w' => Keep (fun k => k = r) w w' ∧ match riceO 19 most s with
      | none => ∃ x : Int, (x = 50 ∨ x = 51) ∧ e = .returned (.tuple #[.int .u64 0, .int .i64 x])
      | some (d, s') => e = .returned (.tuple #[.int .u64 (d : Int), .int .i64 0]) ∧ RfAt w' r s' := by
  cases hr : riceO 19 most s with
  | none =>
    obtain ⟨q, T, rfl, hq, hf⟩ := riceO_none hr
    exact (wriceF r q 19 most T w h hq (by omega) (by decide) hf).mono fun e w' ⟨x, hx, he, hk⟩ => ⟨hk, x, hx, he⟩
  | some p =>
    obtain ⟨d, s'⟩ := p
    obtain ⟨q, t, rfl, hq, hC, rfl, rfl⟩ := riceO_some hr
    exact (wrice r q 19 most t w h hq (by omega) (by decide) hC (by
      have : q * 2 ^ 19 ≤ 1000000 * 2 ^ 19 := Nat.mul_le_mul_right _ (by omega)
      omega)).mono fun e w' ⟨he, h1, hk⟩ => ⟨hk, he, h1⟩
end Go.Proofs.YtgedpgdefafofaaDoor
end

section
/- The document's Number. -/
namespace Go.Proofs.YtgedpgdefafofaaDoor
open Go Go.RowKit
set_option linter.unusedSimpArgs false
set_option linter.unusedVariables false
set_option maxRecDepth 100000

set_option maxHeartbeats 1600000 in
theorem rnum (ys : List Int) (q : Option Addr) (c : Nat) (w : World) (hy : Lib.BytesIn w q ys.length ys) (hr : ∀ y ∈ ys, 0 ≤ y ∧ y ≤ 255) (h8 : ys.length ≤ 8) :
    Calls Tryd.prog 53 #[.slice q ys.length c] w fun e w' => e = .returned (.int .u64 ((leN ys : Nat) : Int)) ∧ w = w' := by
  have HY := Lib.hid hy
  have HR := Lib.hid hr
  have H8 := Lib.hid h8
  obtain ⟨N, hN⟩ : ∃ N, N = ys.length := ⟨_, rfl⟩
  rw [← hN] at HY h8 ⊢
  have HN := Lib.hid hN
  clear hy hr hN
  go_enter Tryd.func53, Tryd.ntmps53
  go_wp2
  go_loopg [3, 8] N (fun gh s i wx => ∃ k t : Nat, k ≤ N ∧ s = .int .u64 (t : Int) ∧ i = .int .i64 (k : Int) ∧ gh = N - k ∧ Hid (t = leN (ys.take k)) ∧ wx = w)
  case atStart => exact ⟨0, 0, Nat.zero_le _, rfl, rfl, rfl, by rw [List.take_zero]; rfl, rfl⟩
  case round =>
    obtain ⟨k, t, hk, rfl, rfl, hg, HT, hwx⟩ := hrel
    obtain rfl : w = wr := hwx.symm
    have HGK := Lib.hid hg
    clear hg
    by_cases hlt : k < N
    · obtain ⟨b, o, rfl, hc⟩ := HY.out.at (by omega)
      have cb := hc k hlt
      have hst := le_step ys HR.out k (by rw [← HN.out]; exact hlt) H8.out
      have hx := getD_rng HR.out k
      generalize ys.getD k 0 = x at *
      rw [← HT.out] at hst
      generalize hu : leN (ys.take (k + 1)) = u at *
      have HU := Lib.hid hu
      obtain ⟨hx0, hx1⟩ := hx
      have a2 : IntKind.i64.wrap (8 * (k : Int)) = 8 * (k : Int) := by rw [IntKind.wrap_i64]; omega
      have hux : IntKind.u64.wrap x = x := IntWalk.u64_in _ (by omega)
      clear hc hu
      go_wp2
      go_roundg (N - (k + 1))
      case measure => rw [HGK.out]; omega
      case rel => exact ⟨k + 1, u, hlt, rfl, rfl, rfl, HU.out.symm, rfl⟩
    · obtain rfl : k = N := by omega
      go_wp2
      go_ret
      refine ⟨congrArg (fun n : Nat => Ending.returned (.int .u64 (n : Int))) ?_, rfl⟩
      rw [HT.out, List.take_of_length_le (by rw [HN.out]; exact Nat.le_refl _)]
end Go.Proofs.YtgedpgdefafofaaDoor
end

section
/- Counts read: Decode, both sides. -/
namespace Go.Proofs.YtgedpgdefafofaaDoor
open Go Go.RowKit
set_option linter.unusedSimpArgs false
set_option linter.unusedVariables false
set_option maxRecDepth 100000

theorem pcut (bs : List Int) (q : Option Addr) (c : Nat) (w : World) (hy : Lib.BytesIn w q bs.length bs) (hr : ∀ y ∈ bs, 0 ≤ y ∧ y ≤ 255) (hc : bs.length ≤ c) (hcm : c ≤ 9223372036854775807) (hl47 : bs.length ≤ 140737488355328) :
    Calls Tryd.prog 63 #[.slice q bs.length c] w (CutPost bs w) := by
  cases bs with
  | nil => exact pcut_nil q c w
  | cons b r =>
    obtain ⟨pb, po, rfl, hcl⟩ := hy.at (by simp)
    rw [List.length_cons] at hcl hc hl47 ⊢
    by_cases h0 : decW b = 0
    · exact pcut0 b r pb po c w hcl (hr b (List.mem_cons_self ..)) hc hcm hl47 h0
    · by_cases h1 : r.length < decW b
      · exact pcut_short b r _ pb po c w hcl hc hcm hl47 rfl (by omega) h1
      · exact pcutW b r _ pb po c w hcl (fun y hy => hr y (List.mem_cons_of_mem _ hy)) hc hcm hl47 rfl (by omega) (by omega)
/-- what 'Decode' answers -/
def DecPost (bs : List Int) (w : World) (e : Ending) (w' : World) : Prop :=
  ∃ (x : Int) (v : Value), e = .returned (.tuple #[.int .u64 x, v, .int .i64 (decE bs)]) ∧ Below w.heap.size w w' ∧ (decE bs = 0 → x = (decN bs : Int) ∧ ∃ o, Row w' 5 v (decR bs) o ∧ ∀ g, o = some g → w.heap.size ≤ g) ∧ (decE bs ≠ 0 → x = 0 ∧ v = .slice none 0 0)
theorem pdecode (bs : List Int) (q : Option Addr) (c : Nat) (w : World) (hy : Lib.BytesIn w q bs.length bs) (hr : ∀ y ∈ bs, 0 ≤ y ∧ y ≤ 255) (hc : bs.length ≤ c) (hcm : c ≤ 9223372036854775807) (hl47 : bs.length ≤ 140737488355328) :
    Calls Tryd.prog 39 #[.slice q bs.length c] w (DecPost bs w) := by
  have PC := Lib.hid (pcut bs q c w hy hr hc hcm hl47)
  clear hy hr hc
  go_enter Tryd.func39, Tryd.ntmps39
  go_wp2_with fail
  refine PC.out.mono ?_
  rintro e w1 ⟨x, v, rfl, hb, h0, h1⟩
  by_cases hE : decE bs = 0
  · obtain ⟨hx, p, c2, rfl, hyr, hle, ⟨hcm2, hl2⟩, a, rfl⟩ := h0 hE
    have PQ := Lib.hid (Tryd.bytes_Clone_at a (decR bs).length c2 (decR bs) w1 rfl (by omega) (fun i hi => by
      obtain ⟨b, o2, e1, hcc⟩ := hyr.at (by omega)
      cases e1
      rw [Addr.add_lit]; exact hcc i hi))
    have HH := Lib.hid (And.intro hb (And.intro hE hx))
    clear hb h0 h1 hE hx hyr
    go_wp2_with fail
    refine PQ.out.mono ?_
    rintro e w2 ⟨v', rfl, hown, hne, hbel⟩
    obtain ⟨o', r1, r2, r3⟩ := Row.of_owns hown
    have HF := Lib.hid (And.intro r1 (And.intro r2 hbel))
    clear r1 r2 r3 hown hne hbel
    go_wp2
    exact bodyPost_ret (results_tmp3 Tryd.results39 _ _ _) rfl ⟨x, v', rfl, HH.out.1.trans (HF.out.2.2.mono HH.out.1.size), fun _ => ⟨HH.out.2.2, o', HF.out.1, fun g hg => Nat.le_trans HH.out.1.size (HF.out.2.1 g hg).1⟩, fun hn => absurd HH.out.2.1 hn⟩
  · obtain ⟨rfl, rfl⟩ := h1 hE
    have PQ := Lib.hid (Tryd.bytes_Clone_nil 0 0 w1)
    have HH := Lib.hid (And.intro hb hE)
    clear hb h0 h1 hE
    go_wp2_with fail
    refine PQ.out.mono ?_
    rintro e w2 ⟨rfl, rfl⟩
    go_wp2
    exact bodyPost_ret (results_tmp3 Tryd.results39 _ _ _) rfl ⟨0, _, rfl, HH.out.1, fun h => absurd h HH.out.2, fun _ => ⟨rfl, rfl⟩⟩
end Go.Proofs.YtgedpgdefafofaaDoor
end

section
/- Counts read: the document's Decode. -/
namespace Go.Proofs.YtgedpgdefafofaaDoor
open Go Go.RowKit
set_option linter.unusedSimpArgs false
set_option linter.unusedVariables false
set_option maxRecDepth 100000

theorem encS_len_iff {b : Int} {W n : Nat} (hW : decW b = W) (h0 : 0 < W) (hn : n < 256 ^ W) : (encS n).length ≠ W + 1 ↔ n < decL b := by
  unfold decW at hW
  unfold decL
  by_cases h1 : b = 253
  · rw [if_pos h1] at hW ⊢
    subst hW
    rw [show (256 : Nat) ^ 2 = 65536 from rfl] at hn
    by_cases h : n < 253
    · rw [encS_1 h]; simp [h]
    · rw [encS_3 h (by omega), List.length_cons, leB_length]; simp [h]
  · rw [if_neg h1] at hW ⊢
    by_cases h2 : b = 254
    · rw [if_pos h2] at hW ⊢
      subst hW
      rw [show (256 : Nat) ^ 4 = 4294967296 from rfl] at hn
      by_cases h : n < 253
      · rw [encS_1 h]; simp; omega
      · by_cases h5 : n ≤ 65535
        · rw [encS_3 h h5, List.length_cons, leB_length]; simp; omega
        · rw [encS_5 h h5 (by omega), List.length_cons, leB_length]; simp; omega
    · rw [if_neg h2] at hW ⊢
      by_cases h3 : b = 255
      · rw [if_pos h3] at hW ⊢
        subst hW
        by_cases h : n < 253
        · rw [encS_1 h]; simp; omega
        · by_cases h5 : n ≤ 65535
          · rw [encS_3 h h5, List.length_cons, leB_length]; simp; omega
          · by_cases h6 : n ≤ 4294967295
            · rw [encS_5 h h5 h6, List.length_cons, leB_length]; simp; omega
            · rw [encS_9 h h5 h6, List.length_cons, leB_length]; simp; omega
      · rw [if_neg h3] at hW; omega
theorem DecPost.err {bs : List Int} {w w' : World} {E : Int} (h : decE bs = E) (hE : E ≠ 0) (hb : Below w.heap.size w w') : DecPost bs w (.returned (.tuple #[.int .u64 0, .slice none 0 0, .int .i64 E])) w' :=
  ⟨0, _, by rw [h], hb, fun h0 => absurd (h.symm.trans h0) hE, fun _ => ⟨rfl, rfl⟩⟩
theorem DecPost.ok {bs : List Int} {w w' : World} {x : Int} {v : Value} {o : Option Nat} (h : decE bs = 0) (hx : x = (decN bs : Int)) (hv : Row w' 5 v (decR bs) o) (ho : ∀ g, o = some g → w.heap.size ≤ g) (hb : Below w.heap.size w w') : DecPost bs w (.returned (.tuple #[.int .u64 x, v, .int .i64 0])) w' :=
  ⟨x, v, by rw [h], hb, fun _ => ⟨hx, o, hv, ho⟩, fun h1 => absurd h h1⟩
theorem rdec_nil (q : Option Addr) (c : Nat) (w : World) : Calls Tryd.prog 76 #[.slice q 0 c] w (DecPost [] w) := by
  go_enter Tryd.func76, Tryd.ntmps76
  go_wp2
  exact bodyPost_ret (results_tmp3 Tryd.results76 _ _ _) rfl (DecPost.err rfl (by decide) (Below.refl _ _))
/-- the copy of what stands behind -/
theorem tail_run (w w0 : World) (hb0 : Below w.heap.size w w0) (xs : List Int) (p : Option Addr) (c : Nat) (hx : Lib.BytesIn w p xs.length xs) (hl : xs.length ≤ 140737488355328) :
    ∃ p1 c1 w1 o1, (Builtin.append_ #[30, 30] 30 #[.slice (some ⟨w0.heap.size, 0, none⟩) 0 0, .slice p xs.length c]).run Tryd.prog (w0.alloc (.cells #[] 5)) = .ok (.slice p1 xs.length c1) w1 ∧ Row w1 5 (.slice p1 xs.length c1) xs o1 ∧ (∀ g, o1 = some g → w.heap.size ≤ g) ∧ Below w.heap.size w w1 := by
  obtain ⟨i0, hi, hz0, hz1, hz2⟩ := info_parts u8inf
  have K0 : Keep (fun _ => False) w (w0.alloc (.cells #[] 5)) := Keep.of_below (hb0.alloc hb0.size _)
  have R0 : Row (w0.alloc (.cells #[] 5)) 5 (.slice (some ⟨w0.heap.size, 0, none⟩) 0 0) [] (some w0.heap.size) := .inr ⟨w0.heap.size, 0, #[], rfl, rfl, Blk.new _ _ _, Nat.le_refl _, Nat.le_refl _, Nat.zero_le _, rfl⟩
  obtain ⟨v1, w1, o1, run1, R1, ho1, k1⟩ := row_appendL (P := Tryd.prog) 30 30 i0 (.int .u8 0) Tryd.underlying30 hi hz0 hz1 hz2 rfl R0 (c := c) (bytes_keep hx K0 (fun _ _ _ h => h)) (by simpa using hl)
  rw [List.nil_append] at R1
  obtain ⟨p1, c1, rfl, _⟩ := R1.form
  obtain ⟨g1, B1⟩ := own_step (w0 := w) (G := w.heap.size) rfl (hb0.alloc hb0.size _) (fun g hg => by cases hg; exact hb0.size) ho1 k1
  exact ⟨p1, c1, w1, o1, run1, R1, g1, B1⟩
set_option maxHeartbeats 3200000 in
theorem rdec0 (b : Int) (r : List Int) (pb po c : Nat) (w : World) (hc : ∀ i, i < r.length + 1 → w.cell? ⟨pb, po + i, none⟩ = some (.int .u8 ((b :: r).getD i 0))) (hr : 0 ≤ b ∧ b ≤ 255) (hlc : r.length + 1 ≤ c) (hcm : c ≤ 9223372036854775807) (hl47 : r.length + 1 ≤ 140737488355328) (hW : decW b = 0) :
    Calls Tryd.prog 76 #[.slice (some ⟨pb, po, none⟩) (r.length + 1) c] w (DecPost (b :: r) w) := by
  obtain ⟨n, rfl⟩ := Int.eq_ofNat_of_zero_le hr.1
  have h3 : n ≠ 253 ∧ n ≠ 254 ∧ n ≠ 255 := by
    unfold decW at hW
    refine ⟨fun h => ?_, fun h => ?_, fun h => ?_⟩ <;> subst h <;> simp at hW
  have hn : n < 253 := by omega
  have PE := Lib.hid (renc1 n hn w)
  have c0 := hc 0 (by omega)
  rw [List.getD_cons_zero, Nat.add_zero] at c0
  have hbw : IntKind.u64.wrap ((n : Nat) : Int) = (n : Int) := IntWalk.u64_in _ (by omega)
  have HE := Lib.hid (show decE (((n : Nat) : Int) :: r) = 0 from if_pos hW)
  have HN := Lib.hid (show ((n : Nat) : Int) = (decN (((n : Nat) : Int) :: r) : Int) from by unfold decN; simp only; rw [if_pos hW]; omega)
  have hdr : decR (((n : Nat) : Int) :: r) = r := by unfold decR; simp only; rw [hW, List.drop_zero]
  have HT := Lib.hid (show ∀ w0 : World, Below w.heap.size w w0 → _ from fun w0 hb => tail_run w w0 hb r (if c = 1 then some ⟨pb, po, none⟩ else some ⟨pb, po + 1, none⟩) (c - 1) (by
    have := bytes_in_drop (w := w) hc (by simp) 1 (if c = 1 then some ⟨pb, po, none⟩ else some ⟨pb, po + 1, none⟩) (fun h => by rw [if_neg (by omega)])
    simpa using this) (by omega))
  have HDR := Lib.hid hdr
  have e1 : (((n : Nat) : Int) == 253) = false := beq_false_of_ne (by omega)
  have e2 : (((n : Nat) : Int) == 254) = false := beq_false_of_ne (by omega)
  have e3 : (((n : Nat) : Int) == 255) = false := beq_false_of_ne (by omega)
  have k0 : ¬ ((r.length : Int) + 1 < 1) := by omega
  have k1 : decide ((r.length : Int) + 1 < 1) = false := decide_eq_false (by omega)
  clear hc hW hr h3 hn hdr
  go_enter Tryd.func76, Tryd.ntmps76
  go_wp2_with fail
  refine PE.out.mono ?_
  rintro e w1 ⟨p1, c1, o1, rfl, _, _, hb1⟩
  obtain ⟨p2, c2, w2, o2, run2, R2, ho2, hb2⟩ := HT.out w1 hb1
  have H2 := Lib.hid (And.intro R2 (And.intro ho2 hb2))
  clear R2 ho2 hb2 hb1
  go_wp2_with (at_builtin; refine wpl_append rfl _ _ 30 rfl rfl rfl run2 ?_)
  all_goals exact bodyPost_ret (results_tmp3 Tryd.results76 _ _ _) rfl (DecPost.ok HE.out HN.out (by rw [HDR.out]; exact H2.out.1) H2.out.2.1 H2.out.2.2)
set_option maxHeartbeats 3200000 in
theorem rdec2s (r : List Int) (pb po c : Nat) (w : World) (hc : ∀ i, i < r.length + 1 → w.cell? ⟨pb, po + i, none⟩ = some (.int .u8 ((253 :: r).getD i 0))) (hlc : r.length + 1 ≤ c) (hcm : c ≤ 9223372036854775807) (hl47 : r.length + 1 ≤ 140737488355328) (hs : r.length < 2) :
    Calls Tryd.prog 76 #[.slice (some ⟨pb, po, none⟩) (r.length + 1) c] w (DecPost (253 :: r) w) := by
  have c0 := hc 0 (by omega)
  rw [List.getD_cons_zero, Nat.add_zero] at c0
  have HE := Lib.hid (show decE (253 :: r) = 50 from by rw [decE_W (W := 2) rfl (by decide), if_pos hs])
  have k1 : decide ((r.length : Int) + 1 < 3) = true := decide_eq_true (by omega)
  have k2 : (r.length : Int) + 1 < 3 := by omega
  clear hc hs
  go_enter Tryd.func76, Tryd.ntmps76
  go_wp2
  exact bodyPost_ret (results_tmp3 Tryd.results76 _ _ _) rfl (DecPost.err HE.out (by decide) (Below.refl _ _))
set_option maxHeartbeats 3200000 in
theorem rdec2 (r : List Int) (pb po c : Nat) (w : World) (hc : ∀ i, i < r.length + 1 → w.cell? ⟨pb, po + i, none⟩ = some (.int .u8 ((253 :: r).getD i 0))) (hr : ∀ y ∈ r, 0 ≤ y ∧ y ≤ 255) (hlc : r.length + 1 ≤ c) (hcm : c ≤ 9223372036854775807) (hl47 : r.length + 1 ≤ 140737488355328) (hs : 2 ≤ r.length) :
    Calls Tryd.prog 76 #[.slice (some ⟨pb, po, none⟩) (r.length + 1) c] w (DecPost (253 :: r) w) := by
  have c0 := hc 0 (by omega)
  rw [List.getD_cons_zero, Nat.add_zero] at c0
  have hT : (r.take 2).length = 2 := by rw [List.length_take]; omega
  have hRT : ∀ y ∈ r.take 2, 0 ≤ y ∧ y ≤ 255 := fun y hy => hr y (List.mem_of_mem_take hy)
  have PN := rnum (r.take 2) (some ⟨pb, po + 1, none⟩) (c - 1) w (fun _ => ⟨pb, po + 1, rfl, fun k hk => by
    rw [hT] at hk
    rw [Nat.add_assoc, hc (1 + k) (by omega), Nat.add_comm 1 k, List.getD_cons_succ]
    congr 2
    rw [List.getD_eq_getElem?_getD, List.getD_eq_getElem?_getD, List.getElem?_take, if_pos hk]⟩) hRT (by rw [hT]; decide)
  rw [hT] at PN
  have hlt := leN_lt (r.take 2) hRT
  rw [hT] at hlt
  have hiff := encS_len_iff (b := 253) (W := 2) rfl (by decide) hlt
  have HE := Lib.hid (show decE (253 :: r) = if leN (r.take 2) < decL 253 then 51 else 0 from by rw [decE_W (W := 2) rfl (by decide), if_neg (by omega)])
  have HN := Lib.hid (decN_W (r := r) (b := 253) (W := 2) rfl (by decide))
  have hdr : decR (253 :: r) = r.drop 2 := rfl
  have hdl : (r.drop 2).length = r.length - 2 := List.length_drop
  have HT := Lib.hid (show ∀ w0 : World, Below w.heap.size w w0 → _ from fun w0 hb => tail_run w w0 hb (r.drop 2) (if c = 3 then some ⟨pb, po, none⟩ else some ⟨pb, po + 3, none⟩) (c - 3) (by
    have := bytes_in_drop (w := w) hc (by simp) 3 (if c = 3 then some ⟨pb, po, none⟩ else some ⟨pb, po + 3, none⟩) (fun h => by rw [if_neg (by omega)])
    simpa using this) (by rw [hdl]; omega))
  rw [hdl] at HT
  have HDR := Lib.hid hdr
  have PNN := Lib.hid PN
  obtain ⟨n, hn⟩ : ∃ n, n = leN (r.take 2) := ⟨_, rfl⟩
  rw [← hn] at hiff HE HN PNN
  have PE := Lib.hid (fun w => renc n (by rw [hn]; exact Nat.lt_of_lt_of_le hlt (by decide)) w)
  obtain ⟨N, hNN⟩ : ∃ N, N = r.length := ⟨_, rfl⟩
  rw [← hNN] at hlc HT hs ⊢
  have k1 : decide ((N : Int) + 1 < 3) = false := decide_eq_false (by omega)
  have k2 : ¬ ((N : Int) + 1 < 3) := by omega
  have k3 : (3 : Int) ≤ (c : Int) := by omega
  have k4 : (3 : Int) ≤ (N : Int) + 1 := by omega
  have k5 : (N : Int) + 1 ≤ (c : Int) := by omega
  have k6 : N + 1 - 3 = N - 2 := by omega
  have k7 : ¬ c = 1 := by omega
  have HS := Lib.hid hs
  clear hc hr hs hn hT hRT hlt hdr hdl PN hNN
  by_cases hlL : n < decL 253
  · have HE2 := Lib.hid (show decE (253 :: r) = 51 from by rw [HE.out, if_pos hlL])
    have hne := hiff.2 hlL
    generalize hm : (encS n).length = m at *
    have hmm : ((m : Int) != 3) = true := by rw [bne_iff_ne]; omega
    clear hiff hlL HE hne
    go_enter Tryd.func76, Tryd.ntmps76
    go_wp2_with fail
    refine PNN.out.mono ?_
    rintro e w1 ⟨rfl, rfl⟩
    go_wp2_with fail
    refine (PE.out _).mono ?_
    rintro e w1 ⟨p1, c1, o1, rfl, _, _, hb1⟩
    have HB := Lib.hid hb1
    clear hb1
    go_wp2
    exact bodyPost_ret (results_tmp3 Tryd.results76 _ _ _) rfl (DecPost.err HE2.out (by decide) HB.out)
  · have HE2 := Lib.hid (show decE (253 :: r) = 0 from by rw [HE.out, if_neg hlL])
    have hne : (encS n).length = 2 + 1 := by
      rcases Nat.decEq (encS n).length (2 + 1) with h | h
      · exact absurd (hiff.1 h) hlL
      · exact h
    have HN2 := Lib.hid (show (n : Int) = (decN (253 :: r) : Int) from by rw [HN.out])
    rw [hne] at PE
    clear hiff hlL HE hne HN
    go_enter Tryd.func76, Tryd.ntmps76
    go_wp2_with fail
    refine PNN.out.mono ?_
    rintro e w1 ⟨rfl, rfl⟩
    go_wp2_with fail
    refine (PE.out _).mono ?_
    rintro e w1 ⟨p1, c1, o1, rfl, _, _, hb1⟩
    obtain ⟨p2, c2, w2, o2, run2, R2, ho2, hb2⟩ := HT.out w1 hb1
    have H2 := Lib.hid (And.intro R2 (And.intro ho2 hb2))
    clear R2 ho2 hb2 hb1
    go_wp2_with (at_builtin; refine wpl_append rfl _ _ 30 rfl rfl rfl run2 ?_)
    all_goals exact bodyPost_ret (results_tmp3 Tryd.results76 _ _ _) rfl (DecPost.ok HE2.out HN2.out (by rw [HDR.out]; exact H2.out.1) H2.out.2.1 H2.out.2.2)
set_option maxHeartbeats 3200000 in
theorem rdec4s (r : List Int) (pb po c : Nat) (w : World) (hc : ∀ i, i < r.length + 1 → w.cell? ⟨pb, po + i, none⟩ = some (.int .u8 ((254 :: r).getD i 0))) (hlc : r.length + 1 ≤ c) (hcm : c ≤ 9223372036854775807) (hl47 : r.length + 1 ≤ 140737488355328) (hs : r.length < 4) :
    Calls Tryd.prog 76 #[.slice (some ⟨pb, po, none⟩) (r.length + 1) c] w (DecPost (254 :: r) w) := by
  have c0 := hc 0 (by omega)
  rw [List.getD_cons_zero, Nat.add_zero] at c0
  have HE := Lib.hid (show decE (254 :: r) = 50 from by rw [decE_W (W := 4) rfl (by decide), if_pos hs])
  have k1 : decide ((r.length : Int) + 1 < 5) = true := decide_eq_true (by omega)
  have k2 : (r.length : Int) + 1 < 5 := by omega
  clear hc hs
  go_enter Tryd.func76, Tryd.ntmps76
  go_wp2
  exact bodyPost_ret (results_tmp3 Tryd.results76 _ _ _) rfl (DecPost.err HE.out (by decide) (Below.refl _ _))
set_option maxHeartbeats 3200000 in
theorem rdec4 (r : List Int) (pb po c : Nat) (w : World) (hc : ∀ i, i < r.length + 1 → w.cell? ⟨pb, po + i, none⟩ = some (.int .u8 ((254 :: r).getD i 0))) (hr : ∀ y ∈ r, 0 ≤ y ∧ y ≤ 255) (hlc : r.length + 1 ≤ c) (hcm : c ≤ 9223372036854775807) (hl47 : r.length + 1 ≤ 140737488355328) (hs : 4 ≤ r.length) :
    Calls Tryd.prog 76 #[.slice (some ⟨pb, po, none⟩) (r.length + 1) c] w (DecPost (254 :: r) w) := by
  have c0 := hc 0 (by omega)
  rw [List.getD_cons_zero, Nat.add_zero] at c0
  have hT : (r.take 4).length = 4 := by rw [List.length_take]; omega
  have hRT : ∀ y ∈ r.take 4, 0 ≤ y ∧ y ≤ 255 := fun y hy => hr y (List.mem_of_mem_take hy)
  have PN := rnum (r.take 4) (some ⟨pb, po + 1, none⟩) (c - 1) w (fun _ => ⟨pb, po + 1, rfl, fun k hk => by
    rw [hT] at hk
    rw [Nat.add_assoc, hc (1 + k) (by omega), Nat.add_comm 1 k, List.getD_cons_succ]
    congr 2
    rw [List.getD_eq_getElem?_getD, List.getD_eq_getElem?_getD, List.getElem?_take, if_pos hk]⟩) hRT (by rw [hT]; decide)
  rw [hT] at PN
  have hlt := leN_lt (r.take 4) hRT
  rw [hT] at hlt
  have hiff := encS_len_iff (b := 254) (W := 4) rfl (by decide) hlt
  have HE := Lib.hid (show decE (254 :: r) = if leN (r.take 4) < decL 254 then 51 else 0 from by rw [decE_W (W := 4) rfl (by decide), if_neg (by omega)])
  have HN := Lib.hid (decN_W (r := r) (b := 254) (W := 4) rfl (by decide))
  have hdr : decR (254 :: r) = r.drop 4 := rfl
  have hdl : (r.drop 4).length = r.length - 4 := List.length_drop
  have HT := Lib.hid (show ∀ w0 : World, Below w.heap.size w w0 → _ from fun w0 hb => tail_run w w0 hb (r.drop 4) (if c = 5 then some ⟨pb, po, none⟩ else some ⟨pb, po + 5, none⟩) (c - 5) (by
    have := bytes_in_drop (w := w) hc (by simp) 5 (if c = 5 then some ⟨pb, po, none⟩ else some ⟨pb, po + 5, none⟩) (fun h => by rw [if_neg (by omega)])
    simpa using this) (by rw [hdl]; omega))
  rw [hdl] at HT
  have HDR := Lib.hid hdr
  have PNN := Lib.hid PN
  obtain ⟨n, hn⟩ : ∃ n, n = leN (r.take 4) := ⟨_, rfl⟩
  rw [← hn] at hiff HE HN PNN
  have PE := Lib.hid (fun w => renc n (by rw [hn]; exact Nat.lt_of_lt_of_le hlt (by decide)) w)
  obtain ⟨N, hNN⟩ : ∃ N, N = r.length := ⟨_, rfl⟩
  rw [← hNN] at hlc HT hs ⊢
  have k1 : decide ((N : Int) + 1 < 5) = false := decide_eq_false (by omega)
  have k2 : ¬ ((N : Int) + 1 < 5) := by omega
  have k3 : (5 : Int) ≤ (c : Int) := by omega
  have k4 : (5 : Int) ≤ (N : Int) + 1 := by omega
  have k5 : (N : Int) + 1 ≤ (c : Int) := by omega
  have k6 : N + 1 - 5 = N - 4 := by omega
  have k7 : ¬ c = 1 := by omega
  have HS := Lib.hid hs
  clear hc hr hs hn hT hRT hlt hdr hdl PN hNN
  by_cases hlL : n < decL 254
  · have HE2 := Lib.hid (show decE (254 :: r) = 51 from by rw [HE.out, if_pos hlL])
    have hne := hiff.2 hlL
    generalize hm : (encS n).length = m at *
    have hmm : ((m : Int) != 5) = true := by rw [bne_iff_ne]; omega
    clear hiff hlL HE hne
    go_enter Tryd.func76, Tryd.ntmps76
    go_wp2_with fail
    refine PNN.out.mono ?_
    rintro e w1 ⟨rfl, rfl⟩
    go_wp2_with fail
    refine (PE.out _).mono ?_
    rintro e w1 ⟨p1, c1, o1, rfl, _, _, hb1⟩
    have HB := Lib.hid hb1
    clear hb1
    go_wp2
    exact bodyPost_ret (results_tmp3 Tryd.results76 _ _ _) rfl (DecPost.err HE2.out (by decide) HB.out)
  · have HE2 := Lib.hid (show decE (254 :: r) = 0 from by rw [HE.out, if_neg hlL])
    have hne : (encS n).length = 4 + 1 := by
      rcases Nat.decEq (encS n).length (4 + 1) with h | h
      · exact absurd (hiff.1 h) hlL
      · exact h
    have HN2 := Lib.hid (show (n : Int) = (decN (254 :: r) : Int) from by rw [HN.out])
    rw [hne] at PE
    clear hiff hlL HE hne HN
    go_enter Tryd.func76, Tryd.ntmps76
    go_wp2_with fail
    refine PNN.out.mono ?_
    rintro e w1 ⟨rfl, rfl⟩
    go_wp2_with fail
    refine (PE.out _).mono ?_
    rintro e w1 ⟨p1, c1, o1, rfl, _, _, hb1⟩
    obtain ⟨p2, c2, w2, o2, run2, R2, ho2, hb2⟩ := HT.out w1 hb1
    have H2 := Lib.hid (And.intro R2 (And.intro ho2 hb2))
    clear R2 ho2 hb2 hb1
    go_wp2_with (at_builtin; refine wpl_append rfl _ _ 30 rfl rfl rfl run2 ?_)
    all_goals exact bodyPost_ret (results_tmp3 Tryd.results76 _ _ _) rfl (DecPost.ok HE2.out HN2.out (by rw [HDR.out]; exact H2.out.1) H2.out.2.1 H2.out.2.2)
set_option maxHeartbeats 3200000 in
theorem rdec8s (r : List Int) (pb po c : Nat) (w : World) (hc : ∀ i, i < r.length + 1 → w.cell? ⟨pb, po + i, none⟩ = some (.int .u8 ((255 :: r).getD i 0))) (hlc : r.length + 1 ≤ c) (hcm : c ≤ 9223372036854775807) (hl47 : r.length + 1 ≤ 140737488355328) (hs : r.length < 8) :
    Calls Tryd.prog 76 #[.slice (some ⟨pb, po, none⟩) (r.length + 1) c] w (DecPost (255 :: r) w) := by
  have c0 := hc 0 (by omega)
  rw [List.getD_cons_zero, Nat.add_zero] at c0
  have HE := Lib.hid (show decE (255 :: r) = 50 from by rw [decE_W (W := 8) rfl (by decide), if_pos hs])
  have k1 : decide ((r.length : Int) + 1 < 9) = true := decide_eq_true (by omega)
  have k2 : (r.length : Int) + 1 < 9 := by omega
  clear hc hs
  go_enter Tryd.func76, Tryd.ntmps76
  go_wp2
  exact bodyPost_ret (results_tmp3 Tryd.results76 _ _ _) rfl (DecPost.err HE.out (by decide) (Below.refl _ _))
set_option maxHeartbeats 3200000 in
theorem rdec8 (r : List Int) (pb po c : Nat) (w : World) (hc : ∀ i, i < r.length + 1 → w.cell? ⟨pb, po + i, none⟩ = some (.int .u8 ((255 :: r).getD i 0))) (hr : ∀ y ∈ r, 0 ≤ y ∧ y ≤ 255) (hlc : r.length + 1 ≤ c) (hcm : c ≤ 9223372036854775807) (hl47 : r.length + 1 ≤ 140737488355328) (hs : 8 ≤ r.length) :
    Calls Tryd.prog 76 #[.slice (some ⟨pb, po, none⟩) (r.length + 1) c] w (DecPost (255 :: r) w) := by
  have c0 := hc 0 (by omega)
  rw [List.getD_cons_zero, Nat.add_zero] at c0
  have hT : (r.take 8).length = 8 := by rw [List.length_take]; omega
  have hRT : ∀ y ∈ r.take 8, 0 ≤ y ∧ y ≤ 255 := fun y hy => hr y (List.mem_of_mem_take hy)
  have PN := rnum (r.take 8) (some ⟨pb, po + 1, none⟩) (c - 1) w (fun _ => ⟨pb, po + 1, rfl, fun k hk => by
    rw [hT] at hk
    rw [Nat.add_assoc, hc (1 + k) (by omega), Nat.add_comm 1 k, List.getD_cons_succ]
    congr 2
    rw [List.getD_eq_getElem?_getD, List.getD_eq_getElem?_getD, List.getElem?_take, if_pos hk]⟩) hRT (by rw [hT]; decide)
  rw [hT] at PN
  have hlt := leN_lt (r.take 8) hRT
  rw [hT] at hlt
  have hiff := encS_len_iff (b := 255) (W := 8) rfl (by decide) hlt
  have HE := Lib.hid (show decE (255 :: r) = if leN (r.take 8) < decL 255 then 51 else 0 from by rw [decE_W (W := 8) rfl (by decide), if_neg (by omega)])
  have HN := Lib.hid (decN_W (r := r) (b := 255) (W := 8) rfl (by decide))
  have hdr : decR (255 :: r) = r.drop 8 := rfl
  have hdl : (r.drop 8).length = r.length - 8 := List.length_drop
  have HT := Lib.hid (show ∀ w0 : World, Below w.heap.size w w0 → _ from fun w0 hb => tail_run w w0 hb (r.drop 8) (if c = 9 then some ⟨pb, po, none⟩ else some ⟨pb, po + 9, none⟩) (c - 9) (by
    have := bytes_in_drop (w := w) hc (by simp) 9 (if c = 9 then some ⟨pb, po, none⟩ else some ⟨pb, po + 9, none⟩) (fun h => by rw [if_neg (by omega)])
    simpa using this) (by rw [hdl]; omega))
  rw [hdl] at HT
  have HDR := Lib.hid hdr
  have PNN := Lib.hid PN
  obtain ⟨n, hn⟩ : ∃ n, n = leN (r.take 8) := ⟨_, rfl⟩
  rw [← hn] at hiff HE HN PNN
  have PE := Lib.hid (fun w => renc n (by rw [hn]; exact Nat.lt_of_lt_of_le hlt (by decide)) w)
  obtain ⟨N, hNN⟩ : ∃ N, N = r.length := ⟨_, rfl⟩
  rw [← hNN] at hlc HT hs ⊢
  have k1 : decide ((N : Int) + 1 < 9) = false := decide_eq_false (by omega)
  have k2 : ¬ ((N : Int) + 1 < 9) := by omega
  have k3 : (9 : Int) ≤ (c : Int) := by omega
  have k4 : (9 : Int) ≤ (N : Int) + 1 := by omega
  have k5 : (N : Int) + 1 ≤ (c : Int) := by omega
  have k6 : N + 1 - 9 = N - 8 := by omega
  have k7 : ¬ c = 1 := by omega
  have HS := Lib.hid hs
  clear hc hr hs hn hT hRT hlt hdr hdl PN hNN
  by_cases hlL : n < decL 255
  · have HE2 := Lib.hid (show decE (255 :: r) = 51 from by rw [HE.out, if_pos hlL])
    have hne := hiff.2 hlL
    generalize hm : (encS n).length = m at *
    have hmm : ((m : Int) != 9) = true := by rw [bne_iff_ne]; omega
    clear hiff hlL HE hne
    go_enter Tryd.func76, Tryd.ntmps76
    go_wp2_with fail
    refine PNN.out.mono ?_
    rintro e w1 ⟨rfl, rfl⟩
    go_wp2_with fail
    refine (PE.out _).mono ?_
    rintro e w1 ⟨p1, c1, o1, rfl, _, _, hb1⟩
    have HB := Lib.hid hb1
    clear hb1
    go_wp2
    exact bodyPost_ret (results_tmp3 Tryd.results76 _ _ _) rfl (DecPost.err HE2.out (by decide) HB.out)
  · have HE2 := Lib.hid (show decE (255 :: r) = 0 from by rw [HE.out, if_neg hlL])
    have hne : (encS n).length = 8 + 1 := by
      rcases Nat.decEq (encS n).length (8 + 1) with h | h
      · exact absurd (hiff.1 h) hlL
      · exact h
    have HN2 := Lib.hid (show (n : Int) = (decN (255 :: r) : Int) from by rw [HN.out])
    rw [hne] at PE
    clear hiff hlL HE hne HN
    go_enter Tryd.func76, Tryd.ntmps76
    go_wp2_with fail
    refine PNN.out.mono ?_
    rintro e w1 ⟨rfl, rfl⟩
    go_wp2_with fail
    refine (PE.out _).mono ?_
    rintro e w1 ⟨p1, c1, o1, rfl, _, _, hb1⟩
    obtain ⟨p2, c2, w2, o2, run2, R2, ho2, hb2⟩ := HT.out w1 hb1
    have H2 := Lib.hid (And.intro R2 (And.intro ho2 hb2))
    clear R2 ho2 hb2 hb1
    go_wp2_with (at_builtin; refine wpl_append rfl _ _ 30 rfl rfl rfl run2 ?_)
    all_goals exact bodyPost_ret (results_tmp3 Tryd.results76 _ _ _) rfl (DecPost.ok HE2.out HN2.out (by rw [HDR.out]; exact H2.out.1) H2.out.2.1 H2.out.2.2)
theorem rdecode (bs : List Int) (q : Option Addr) (c : Nat) (w : World) (hy : Lib.BytesIn w q bs.length bs) (hr : ∀ y ∈ bs, 0 ≤ y ∧ y ≤ 255) (hc : bs.length ≤ c) (hcm : c ≤ 9223372036854775807) (hl47 : bs.length ≤ 140737488355328) :
    Calls Tryd.prog 76 #[.slice q bs.length c] w (DecPost bs w) := by
  cases bs with
  | nil => exact rdec_nil q c w
  | cons b r =>
    obtain ⟨pb, po, rfl, hcl⟩ := hy.at (by simp)
    rw [List.length_cons] at hcl hc hl47 ⊢
    have hr' : ∀ y ∈ r, 0 ≤ y ∧ y ≤ 255 := fun y hy => hr y (List.mem_cons_of_mem _ hy)
    by_cases h1 : b = 253
    · subst h1
      by_cases hs : r.length < 2
      · exact rdec2s r pb po c w hcl hc hcm hl47 hs
      · exact rdec2 r pb po c w hcl hr' hc hcm hl47 (by omega)
    · by_cases h2 : b = 254
      · subst h2
        by_cases hs : r.length < 4
        · exact rdec4s r pb po c w hcl hc hcm hl47 hs
        · exact rdec4 r pb po c w hcl hr' hc hcm hl47 (by omega)
      · by_cases h3 : b = 255
        · subst h3
          by_cases hs : r.length < 8
          · exact rdec8s r pb po c w hcl hc hcm hl47 hs
          · exact rdec8 r pb po c w hcl hr' hc hcm hl47 (by omega)
        · exact rdec0 b r pb po c w hcl (hr b (List.mem_cons_self ..)) hc hcm hl47 (by unfold decW; rw [if_neg h1, if_neg h2, if_neg h3])
end Go.Proofs.YtgedpgdefafofaaDoor
end
