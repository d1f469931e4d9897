/- The walks of Div, the program's and the reference's. -/
import Derived.Test.YtacgcaebolmpfaaDivBase
import Derived.Test.YtacgcaebolmpfaaShift
import Derived.Test.YtacgcaebolmpfaaCmp
import Derived.Test.YtacgcaebolmpfaaWideEq
import Derived.Test.YtacgcaebolmpfaaWideA
namespace Go.Proofs.Ytacgcaebolmpfaa
open Go.RowKit
set_option linter.unusedSimpArgs false

theorem wv_zero : wv 0 = .agg #[.int .u64 0, .int .u64 0, .int .u64 0, .int .u64 0] := by simp [wd]
theorem St.new4 (w : World) (c0 c1 c2 c3 : Array Value) (t0 t1 t2 t3 : TypeId) : St w.heap.size w ((((w.alloc (.cells c0 t0)).alloc (.cells c1 t1)).alloc (.cells c2 t2)).alloc (.cells c3 t3)) [(w.heap.size + 1 + 1 + 1, c3, t3), (w.heap.size + 1 + 1, c2, t2), (w.heap.size + 1, c1, t1), (w.heap.size, c0, t0)] := by
  have h := (St.new3' w c0 c1 c2 t0 t1 t2).new c3 t3
  rw [show (((w.alloc (.cells c0 t0)).alloc (.cells c1 t1)).alloc (.cells c2 t2)).heap.size = w.heap.size + 1 + 1 + 1 from by simp] at h
  exact h

/-- a number is stored into a variable -/
theorem St.put {B : Nat} {W w : World} {b m n : Nat} {t : TypeId} {l : List (Nat × Array Value × TypeId)} (h : St B W w ((b, wcs m, t) :: l)) (hB : B ≤ b) (hne : ∀ x ∈ l, x.1 ≠ b) :
    St B W ((((w.setCell ⟨b, 0, none⟩ (.int .u64 (wd n 0))).setCell ⟨b, 1, none⟩ (.int .u64 (wd n 1))).setCell ⟨b, 2, none⟩ (.int .u64 (wd n 2))).setCell ⟨b, 3, none⟩ (.int .u64 (wd n 3))) ((b, wcs n, t) :: l) :=
  (((h.set hB hne 0 (.int .u64 (wd n 0))).set hB hne 1 (.int .u64 (wd n 1))).set hB hne 2 (.int .u64 (wd n 2))).set hB hne 3 (.int .u64 (wd n 3))
theorem clampN_nat (n : Nat) (h : n ≤ 256) : clampN (n : Int) = n := by unfold clampN; omega

theorem div_start {a b : Nat} {N : Int} (h : (blen a : Int) - (blen b : Int) = N) (hz : b ≠ 0) : a < b * 2 ^ (N + 1).toNat := by
  by_cases hN : 0 ≤ N
  · rw [show (N + 1).toNat = N.toNat + 1 from by omega]
    exact div_first a b N.toNat hz (by omega)
  · rw [show (N + 1).toNat = 0 from by omega, Nat.pow_zero, Nat.mul_one]
    exact div_small a b (by omega)
theorem div_rel_yes {q b x a n P : Nat} {N : Int} (h : q * b + x = a ∧ x < b * 2 ^ (n + 1) ∧ q % 2 ^ (n + 1) = 0 ∧ (n : Int) ≤ N) (hP : b * 2 ^ n = P) (hge : P ≤ x) :
    Hid ((q + 2 ^ n) * b + (x - P) = a ∧ x - P < b * 2 ^ ((n : Int) - 1 + 1).toNat ∧ (q + 2 ^ n) % 2 ^ ((n : Int) - 1 + 1).toNat = 0 ∧ (n : Int) - 1 ≤ N) := by
  subst hP
  rw [show ((n : Int) - 1 + 1).toNat = n from by omega]
  obtain ⟨e1, e2, e3, e4⟩ := h
  rw [Nat.pow_succ, ← Nat.mul_assoc] at e2
  exact ⟨div_yes a b q x n e1 hge, by omega, (mod_high q n e3).1, by omega⟩
theorem div_rel_no {q b x a n P : Nat} {N : Int} (h : q * b + x = a ∧ x < b * 2 ^ (n + 1) ∧ q % 2 ^ (n + 1) = 0 ∧ (n : Int) ≤ N) (hP : b * 2 ^ n = P) (hge : ¬ P ≤ x) :
    Hid (q * b + x = a ∧ x < b * 2 ^ ((n : Int) - 1 + 1).toNat ∧ q % 2 ^ ((n : Int) - 1 + 1).toNat = 0 ∧ (n : Int) - 1 ≤ N) := by
  subst hP
  rw [show ((n : Int) - 1 + 1).toNat = n from by omega]
  obtain ⟨e1, e2, e3, e4⟩ := h
  exact ⟨e1, by omega, (mod_high q n e3).2, by omega⟩

set_option maxRecDepth 100000 in
set_option maxHeartbeats 800000 in
theorem wdiv0 (a : Nat) (w : World) :
    Calls Try.prog 33 #[wv a, wv 0] w fun e w' => e = .returned (.tuple #[wv 0, wv 0, .int .i64 30]) ∧ Below w.heap.size w w' := by
  have q := weql 0 0 W_pos W_pos
  rw [beq_self_eq_true, wv_zero] at q
  rw [wv_zero]
  go_enter Try.func33, Try.ntmps33
  go_wp2
  exact bodyPost_ret (v := .tuple #[.agg #[.int .u64 0, .int .u64 0, .int .u64 0, .int .u64 0], .agg #[.int .u64 0, .int .u64 0, .int .u64 0, .int .u64 0], .int .i64 30]) (by simp [results, Try.results33, go_sem]) rfl
    ⟨rfl, ((((Below.refl w.heap.size w).alloc (Nat.le_refl _) _).alloc (by simp) _).alloc (by simp; omega) _).alloc (by simp; omega) _⟩

set_option maxRecDepth 100000 in
set_option maxHeartbeats 800000 in
theorem wdiv (a b : Nat) (w : World) (ha : a < W256) (hb : b < W256) (hz : b ≠ 0) :
    Calls Try.prog 33 #[wv a, wv b] w fun e w' => e = .returned (.tuple #[wv (a / b), wv (a % b), .int .i64 0]) ∧ Below w.heap.size w w' := by
  have q := weql b 0 hb W_pos
  rw [show (b == 0) = false from by simpa using hz, wv_zero] at q
  have L := St.new4 w (wcs a) (wcs b) (wcs 0) (wcs 0) 25 25 25 25
  go_enter Try.func33, Try.ntmps33
  go_upto_region 3 with fail
  rw [wc_zero] at L
  generalize (((w.alloc (.cells #[.int .u64 (wd a 0), .int .u64 (wd a 1), .int .u64 (wd a 2), .int .u64 (wd a 3)] 25)).alloc (.cells #[.int .u64 (wd b 0), .int .u64 (wd b 1), .int .u64 (wd b 2), .int .u64 (wd b 3)] 25)).alloc (.cells #[.int .u64 0, .int .u64 0, .int .u64 0, .int .u64 0] 25)).alloc (.cells #[.int .u64 0, .int .u64 0, .int .u64 0, .int .u64 0] 25) = v0 at *
  clear q
  have hv0 := (L.at (b := w.heap.size + 1 + 1 + 1) (c := #[.int .u64 0, .int .u64 0, .int .u64 0, .int .u64 0]) (t := 25) (by simp)).lt
  replace L := L.new (wcs 0) 25
  go_upto_region 4 with fail
  rw [wc_zero] at L
  generalize hv : v0.alloc (.cells #[.int .u64 0, .int .u64 0, .int .u64 0, .int .u64 0] 25) = v at *
  generalize v0.heap.size = g at *
  clear hv
  rw [← wc_zero] at L
  have A := L.at (b := w.heap.size) (c := wcs a) (t := 25) (by simp)
  have B := L.at (b := w.heap.size + 1) (c := wcs b) (t := 25) (by simp)
  have a1 := A.cell
  have a2 := A.lt
  have b1 := B.cell
  have b2 := B.lt
  have la := blen_lt a 256 (by rw [W256_eq] at ha; exact ha)
  have lb := blen_lt b 256 (by rw [W256_eq] at hb; exact hb)
  go_region_held3 (fun w' => Below v.heap.size v w' ∧ (∀ b o, b < v.heap.size → w'.cell? ⟨b, o, none⟩ = v.cell? ⟨b, o, none⟩)) (first | exact SK.start v | exact SK.keep (by assumption) hw') (first | (go_at_call 24; refine (wbits _ _ (by assumption)).mono ?_; rintro e w' ⟨rfl, hw'⟩) | fail)
  rename_i hK
  replace L := L.call hK.1
  have iw := IntWalk.i64_in ((blen a : Int) - (blen b : Int)) (by omega)
  clear hK hw' a1 b1 a2 b2 A B
  rw [iw]
  generalize hN : (blen a : Int) - (blen b : Int) = N at *
  have HN := Lib.hid hN
  have HL := Lib.hid (And.intro la lb)
  have hN1 : N ≤ 256 := by omega
  have hN2 : -257 ≤ N := by omega
  clear hN iw la lb
  go_wp2
  go_loopg [8] (N + 1).toNat (fun m i wr => ∃ (x q : Nat) (z : Int), i = .int .i64 z ∧ -257 ≤ z ∧ z ≤ 256 ∧ m = (z + 1).toNat ∧ Hid (q * b + x = a ∧ x < b * 2 ^ (z + 1).toNat ∧ q % 2 ^ (z + 1).toNat = 0 ∧ z ≤ N) ∧ St w.heap.size w wr [(g, wcs q, 25), (w.heap.size + 1 + 1 + 1, wcs 0, 25), (w.heap.size + 1 + 1, wcs 0, 25), (w.heap.size + 1, wcs b, 25), (w.heap.size, wcs x, 25)])
  case atStart =>
    exact ⟨a, 0, N, rfl, hN2, hN1, rfl, ⟨by omega, div_start HN.out hz, by simp, Int.le_refl _⟩, L⟩
  case round =>
    clear L
    obtain ⟨x, q, z, rfl, hz1, hz2, rfl, H, L⟩ := hrel
    by_cases hz0 : 0 ≤ z
    · obtain ⟨n, rfl⟩ := Int.eq_ofNat_of_zero_le hz0
      obtain ⟨e1, e2, e3, e4⟩ := H.out
      rw [show ((n : Int) + 1).toNat = n + 1 from by omega] at e2 e3
      have eN := HN.out
      have hP : b * 2 ^ n < W256 := by rw [W256_eq] at ha ⊢; exact div_part a b n ha (by omega)
      have ep : b * 2 ^ clampN (n : Int) % W256 = b * 2 ^ n := by rw [clampN_nat n (by omega), Nat.mod_eq_of_lt hP]
      have hx : x < W256 := by omega
      have E := Lib.hid (And.intro e1 (And.intro e2 (And.intro e3 e4)))
      have EP := Lib.hid ep
      have HP := Lib.hid hP
      clear e1 e2 e3 e4 eN ep hP
      have B := L.at (b := w.heap.size + 1) (c := wcs b) (t := 25) (by simp)
      have b1 := B.cell
      go_wp2_with fail
      refine (wleft b n _).mono ?_
      rintro e w1 ⟨rfl, hw1⟩
      rw [EP.out]
      clear B b1
      have hp1 := ((L.call hw1).at (b := g) (c := wcs q) (t := 25) (by simp)).lt
      replace L := (L.call hw1).new (wcs (b * 2 ^ n)) 25
      have hq1 := HP.out
      generalize hPd : b * 2 ^ n = P at *
      have HPd := Lib.hid hPd
      clear hPd
      go_upto_region 8 with fail
      generalize hv1 : w1.alloc (.cells #[.int .u64 (wd P 0), .int .u64 (wd P 1), .int .u64 (wd P 2), .int .u64 (wd P 3)] 25) = v1 at *
      generalize w1.heap.size = p at *
      clear hv1
      have X := L.at (b := w.heap.size) (c := wcs x) (t := 25) (by simp)
      have PB := L.at (b := p) (c := wcs P) (t := 25) (by simp)
      have x1 := X.cell
      have p1 := PB.cell
      by_cases hge : P ≤ x
      · have hc : (0 : Int) ≤ cmpN x P := by unfold cmpN; rw [if_neg (by omega)]; split <;> decide
        go_wp2_with fail
        refine (wcmp x P _ hx hq1).mono ?_
        rintro e w2 ⟨rfl, hw2⟩
        replace L := L.call hw2
        clear X PB x1 p1
        have X := L.at (b := w.heap.size) (c := wcs x) (t := 25) (by simp)
        have PB := L.at (b := p) (c := wcs P) (t := 25) (by simp)
        have x1 := X.cell
        have x2 := X.free
        have p1 := PB.cell
        go_wp2_with fail
        refine (wsub x P _ hx hq1).mono ?_
        rintro e w3 ⟨rfl, hw3⟩
        rw [show (x + W256 - P) % W256 = x - P from by rw [W256_eq] at *; omega]
        replace L := L.call hw3
        clear X PB x1 p1 x2
        have X := L.at (b := w.heap.size) (c := wcs x) (t := 25) (by simp)
        have x1 := X.cell
        have x2 := X.free
        go_upto_region 10 with fail
        have LP := ((L.perm (l' := [(w.heap.size, wcs x, 25), (p, wcs P, 25), (g, wcs q, 25), (w.heap.size + 1 + 1 + 1, wcs 0, 25), (w.heap.size + 1 + 1, wcs 0, 25), (w.heap.size + 1, wcs b, 25)]) (by simp)).put (n := x - P) (by omega) (by simp <;> omega)).perm (l' := [(g, wcs q, 25), (w.heap.size + 1 + 1 + 1, wcs 0, 25), (w.heap.size + 1 + 1, wcs 0, 25), (w.heap.size + 1, wcs b, 25), (w.heap.size, wcs (x - P), 25)]) (by simp)
        generalize (((w3.setCell ⟨w.heap.size, 0, none⟩ (.int .u64 (wd (x - P) 0))).setCell ⟨w.heap.size, 1, none⟩ (.int .u64 (wd (x - P) 1))).setCell ⟨w.heap.size, 2, none⟩ (.int .u64 (wd (x - P) 2))).setCell ⟨w.heap.size, 3, none⟩ (.int .u64 (wd (x - P) 3)) = w4 at *
        clear L X x1 x2
        have Q := LP.at (b := g) (c := wcs q) (t := 25) (by simp)
        have q1 := Q.cell
        have q2 := Q.free
        obtain ⟨e1, e2, e3, e4⟩ := E.out
        have eN := HN.out
        have hl := HL.out.1
        have hn : n < 256 ∨ blen b = 0 := by omega
        have hn1 : n < 256 := by
          rcases hn with h | h
          · exact h
          · exact absurd (show b = 0 from by have := (blen_le b 0).1 (by omega); simpa using this) hz
        have eo := or_high q n e3
        have EC := Lib.hid (cells_high q n e3 hn1)
        have EE := Lib.hid (And.intro e1 (And.intro e2 (And.intro e3 e4)))
        have g0 := wd_get q (n / 64) (by omega)
        have g1 := wd_at q (n / 64) (by omega)
        have k0 : (0 : Int) ≤ (n : Int) / 64 := by omega
        have k1 : (n : Int) / 64 < 4 := by omega
        clear e1 e2 e3 e4 eN hl hn H E
        go_region
        replace LP := LP.set (by omega) (by simp <;> omega) (n / 64) (.int .u64 (wd (q + 2 ^ n) (n / 64)))
        rw [EC.out] at LP
        clear eo EC g0 g1 q1 q2 k0 k1 Q
        go_wp2
        go_roundg n
        case measure => omega
        case rel => exact ⟨x - P, q + 2 ^ n, (n : Int) - 1, rfl, by omega, by omega, by omega, div_rel_yes EE.out HPd.out hge, LP.drew⟩
      · have hc : ¬ (0 : Int) ≤ cmpN x P := by unfold cmpN; rw [if_pos (by omega)]; decide
        go_wp2_with fail
        refine (wcmp x P _ hx hq1).mono ?_
        rintro e w2 ⟨rfl, hw2⟩
        replace L := (L.call hw2).perm (l' := [(g, wcs q, 25), (w.heap.size + 1 + 1 + 1, wcs 0, 25), (w.heap.size + 1 + 1, wcs 0, 25), (w.heap.size + 1, wcs b, 25), (w.heap.size, wcs x, 25)]) (by simp)
        clear X PB x1 p1
        go_wp2
        go_roundg n
        case measure => omega
        case rel => exact ⟨x, q, (n : Int) - 1, rfl, by omega, by omega, by omega, div_rel_no E.out HPd.out hge, L⟩
    · obtain ⟨e1, e2, e3, e4⟩ := H.out
      rw [show (z + 1).toNat = 0 from by omega, Nat.pow_zero, Nat.mul_one] at e2
      obtain ⟨d1, d2⟩ := div_end a b q x e1 e2
      subst d1 d2
      clear e1 e2 e3 e4 H
      have hz' : ¬ (0 : Int) ≤ z := hz0
      have Q := L.at (b := g) (c := wcs (a / b)) (t := 25) (by simp)
      have R := L.at (b := w.heap.size) (c := wcs (a % b)) (t := 25) (by simp)
      have T4 := L.at (b := w.heap.size + 1 + 1) (c := wcs 0) (t := 25) (by simp)
      have T5 := L.at (b := w.heap.size + 1 + 1 + 1) (c := wcs 0) (t := 25) (by simp)
      have q1 := Q.cell
      have r1 := R.cell
      have t1 := T4.cell
      have t2 := T4.free
      have t3 := T5.cell
      have t4 := T5.free
      rw [wc_zero] at t1 t3
      generalize hqq : a / b = qq at *
      generalize hrr : a % b = rr at *
      have HQ := Lib.hid hqq
      have HR := Lib.hid hrr
      clear hqq hrr
      go_upto_region 11 with fail
      go_region
      have L1 := (L.perm (l' := [(w.heap.size + 1 + 1, wcs 0, 25), (w.heap.size + 1 + 1 + 1, wcs 0, 25)]) (by simp)).put (n := qq) (by omega) (by simp <;> omega)
      have L2 := ((L1.perm (l' := [(w.heap.size + 1 + 1 + 1, wcs 0, 25), (w.heap.size + 1 + 1, wcs qq, 25)]) (by simp)).put (n := rr) (by omega) (by simp <;> omega)).drew
      have c5 := (L2.at (b := w.heap.size + 1 + 1 + 1) (c := wcs rr) (t := 25) (by simp)).cell
      have c4 := (L2.at (b := w.heap.size + 1 + 1) (c := wcs qq) (t := 25) (by simp)).cell
      go_wp2
      exact bodyPost_ret (v := .tuple #[wv qq, wv rr, .int .i64 0]) (by simp [results, Try.results33, go_sem, c4, c5]) rfl ⟨by rw [HQ.out, HR.out], L2.below⟩
end Go.Proofs.Ytacgcaebolmpfaa
