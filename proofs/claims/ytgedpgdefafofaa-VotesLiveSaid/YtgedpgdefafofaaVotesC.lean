/- The walks of layer 18: slices.DeleteFunc with the closure of Leave; Leave. -/
import Derived.Test.YtgedpgdefafofaaVotesB
import Derived.Lib.SliceRun
namespace Go.Proofs.Ytgedpgdefafofaa
open Go Go.RowKit
set_option linter.unusedSimpArgs false

def i64s (xs : List Int) : List Value := xs.map (Value.int .i64)
theorem i64s_length (xs : List Int) : (i64s xs).length = xs.length := by simp [i64s]
theorem i64s_get (xs : List Int) (i : Nat) (h : i < xs.length) : (i64s xs)[i]? = some (.int .i64 (xs.getD i 0)) := by simp [i64s, List.getD, h]
theorem pclos (x y : Int) (b : Nat) (w : World) (h : w.cell? ⟨b, 0, none⟩ = some (.int .i64 y)) : Calls Try.prog 20 #[.int .i64 x, .pointer (some ⟨b, 0, none⟩)] w fun e w' => e = .returned (.bool (x == y)) ∧ w = w' := by
  go_enter Try.func20, Try.ntmps20
  go_wp2
  go_ret
  exact ⟨rfl, rfl⟩
/-- the first place at which y stands -/
theorem pindexf (g n cap b : Nat) (A B : List Int) (y : Int) (w : World) (hn : n = (A ++ y :: B).length) (hmax : n ≤ 9223372036854775807) (hA : ∀ x ∈ A, x ≠ y)
    (hc : ∀ i, i < n → w.cell? ⟨g, i, none⟩ = some (.int .i64 ((A ++ y :: B).getD i 0))) (hb : w.cell? ⟨b, 0, none⟩ = some (.int .i64 y)) :
    Calls Try.prog 22 #[.slice (some ⟨g, 0, none⟩) n cap, .func (.func 20) #[] #[.pointer (some ⟨b, 0, none⟩)]] w fun e w' => e = .returned (.int .i64 (A.length : Int)) ∧ w = w' := by
  have PC := Lib.hid (fun x => pclos x y b w hb)
  have HC := Lib.hid hc
  have HA := Lib.hid hA
  have HN := Lib.hid hn
  clear hc hb hA hn
  go_enter Try.func22, Try.ntmps22
  go_wp2
  go_loopg [8] n (fun gh i wx => ∃ k : Nat, k ≤ A.length ∧ i = .int .i64 (k : Int) ∧ gh = n - k ∧ wx = w)
  case atStart => exact ⟨0, Nat.zero_le _, rfl, rfl, rfl⟩
  case round =>
    obtain ⟨k, hk, rfl, hg, rfl⟩ := hrel
    have hkn : k < n := by have := HN.out; rw [this]; simp; omega
    have hc := HC.out k hkn
    have HG := Lib.hid hg
    clear hg
    by_cases hlt : k < A.length
    · have hx : (A ++ y :: B).getD k 0 ≠ y := by
        rw [List.getD_eq_getElem?_getD, List.getElem?_append_left hlt, List.getElem?_eq_getElem hlt]
        exact HA.out _ (List.getElem_mem _)
      generalize (A ++ y :: B).getD k 0 = xk at *
      have hxe : (xk == y) = false := beq_false_of_ne hx
      clear hx
      go_wp2_with fail
      refine (PC.out xk).mono ?_
      rintro e w1 ⟨rfl, rfl⟩
      rw [hxe]
      go_wp2
      go_roundg (n - (k + 1))
      case measure => rw [HG.out]; omega
      case rel => exact ⟨k + 1, hlt, rfl, rfl, rfl⟩
    · obtain rfl : k = A.length := by omega
      have hx : (A ++ y :: B).getD A.length 0 = y := by
        rw [List.getD_eq_getElem?_getD, List.getElem?_append_right (Nat.le_refl _), Nat.sub_self]; rfl
      rw [hx] at hc
      clear hx
      go_wp2_with fail
      refine (PC.out y).mono ?_
      rintro e w1 ⟨rfl, rfl⟩
      rw [beq_self_eq_true]
      go_wp2
      go_ret
      exact ⟨rfl, rfl⟩
/-- the row in the middle of the loop -/
def mid (A B : List Int) (y : Int) (t : Nat) : List Int := A ++ B.take t ++ (y :: B).drop t
theorem mid_length (A B : List Int) (y : Int) (t : Nat) (h : t ≤ B.length) : (mid A B y t).length = A.length + B.length + 1 := by
  simp [mid, List.length_take, List.length_drop]; omega
theorem mid_start (A B : List Int) (y : Int) : mid A B y 0 = A ++ y :: B := by simp [mid]
theorem mid_next (A B : List Int) (y : Int) (t : Nat) (h : t < B.length) : (mid A B y t).getD (A.length + 1 + t) 0 = B.getD t 0 := by
  have hl : (A ++ B.take t).length = A.length + t := by simp; omega
  rw [List.getD_eq_getElem?_getD, mid, List.getElem?_append_right (by omega), hl, List.getElem?_drop, show t + (A.length + 1 + t - (A.length + t)) = t + 1 from by omega, List.getElem?_cons_succ, List.getD_eq_getElem?_getD]
theorem mid_set (A B : List Int) (y : Int) (t : Nat) (h : t < B.length) : (i64s (mid A B y t)).set (A.length + t) (.int .i64 (B.getD t 0)) = i64s (mid A B y (t + 1)) := by
  have hl : (A ++ B.take t).length = A.length + t := by simp; omega
  unfold i64s
  rw [← List.map_set]
  congr 1
  unfold mid
  rw [List.set_append_right _ _ (by omega), hl, Nat.sub_self]
  have e1 : (y :: B).drop t = (y :: B)[t]'(by simp; omega) :: B.drop t := by
    rw [List.drop_eq_getElem_cons (by simp; omega)]; rfl
  rw [e1, List.set_cons_zero, List.take_add_one, List.getElem?_eq_getElem h, List.drop_succ_cons, List.append_assoc, List.append_assoc, List.append_assoc]
  congr 1
  rw [List.getD_eq_getElem?_getD, List.getElem?_eq_getElem h]
  rfl
theorem mid_end (A B : List Int) (y u : Int) : ((i64s (mid A B y B.length)).set (A.length + B.length) (.int .i64 u)).take (A.length + B.length) = i64s (A ++ B) := by
  rw [List.take_set_of_le (Nat.le_refl _)]
  unfold i64s mid
  rw [← List.map_take, List.take_length]
  congr 1
  exact List.take_left' (by simp)
theorem zeroInt (w : World) : (zeroValue 3).run Try.prog w = .ok (.int .i64 0) w := by kernel_rfl
set_option maxHeartbeats 3200000 in
theorem pdelf (g n cap b : Nat) (A B : List Int) (y : Int) (w : World) (hn : n = A.length + B.length + 1) (hmax : n ≤ 1000000) (hA : ∀ x ∈ A, x ≠ y) (hB : ∀ x ∈ B, x ≠ y) (hbg : b ≠ g)
    (h : RowV w 3 1 (.slice (some ⟨g, 0, none⟩) n cap) n (i64s (A ++ y :: B)) (some g)) (hb : w.cell? ⟨b, 0, none⟩ = some (.int .i64 y)) :
    Calls Try.prog 19 #[.slice (some ⟨g, 0, none⟩) n cap, .func (.func 20) #[] #[.pointer (some ⟨b, 0, none⟩)]] w fun e w' => e = .returned (.slice (some ⟨g, 0, none⟩) (n - 1) cap) ∧ RowV w' 3 1 (.slice (some ⟨g, 0, none⟩) (n - 1) cap) (n - 1) (i64s (A ++ B)) (some g) ∧ Keep (fun k => k = g) w w' := by
  obtain ⟨g', cap', e1, e2, hcap, hcm, hgl, hcell, hfree⟩ := h.mem (by omega)
  cases e1; cases e2
  have hlen : (A ++ y :: B).length = n := by rw [hn]; simp; omega
  have PI := Lib.hid (pindexf g n cap b A B y w hlen.symm (by omega) hA (fun i hi => by rw [hcell i (by omega), i64s_get _ _ (by omega)]) hb)
  have HR := Lib.hid h
  have HBY := Lib.hid hB
  have hbl := cell_lt hb
  have HB := Lib.hid hb
  have HNN := Lib.hid hn
  have hna : A.length < n := by omega
  have hneg : ((A.length : Int) == -1) = false := beq_false_of_ne (by omega)
  clear h hcell hfree hA hB hb hlen hn
  go_enter Try.func19, Try.ntmps19
  go_wp2_with fail
  refine PI.out.mono ?_
  rintro e w1 ⟨rfl, rfl⟩
  go_wp2
  go_loopg [5, 6] n (fun gh i j wx => ∃ t : Nat, t ≤ B.length ∧ i = .int .i64 ((A.length + t : Nat) : Int) ∧ j = .int .i64 ((A.length + 1 + t : Nat) : Int) ∧ gh = n - t ∧ Hid (RowV wx 3 1 (.slice (some ⟨g, 0, none⟩) n cap) n (i64s (mid A B y t)) (some g) ∧ Keep (fun k => k = g) w wx))
  case atStart =>
    refine ⟨0, Nat.zero_le _, rfl, rfl, rfl, ?_, Keep.refl _ _⟩
    rw [mid_start]; exact HR.out
  case round =>
    have hn := HNN.out
    obtain ⟨t, ht, rfl, rfl, hg, HM⟩ := hrel
    have HG := Lib.hid hg
    clear hg
    obtain ⟨g', cap', e1, e2, _, _, _, hcell, hfree⟩ := HM.out.1.mem (by omega)
    cases e1; cases e2
    by_cases hlt : t < B.length
    · have c1 := hcell (A.length + 1 + t) (by omega)
      rw [i64s_get _ _ (by rw [mid_length _ _ _ _ ht]; omega), mid_next A B y t hlt] at c1
      have c2 := hcell (A.length + t) (by omega)
      rw [i64s_get _ _ (by rw [mid_length _ _ _ _ ht]; omega)] at c2
      have f2 := hfree (A.length + t)
      have hx : B.getD t 0 ≠ y := by rw [List.getD_eq_getElem?_getD, List.getElem?_eq_getElem hlt]; exact HBY.out _ (List.getElem_mem _)
      have hset := Lib.hid (mid_set A B y t hlt)
      generalize B.getD t 0 = xt at *
      have hxe : (xt == y) = false := beq_false_of_ne hx
      have PC := Lib.hid (pclos xt y b wr ((HM.out.2.cell (p := ⟨b, 0, none⟩) hbl hbg).trans HB.out))
      have j1 : A.length + 1 + t < n := by omega
      have j2 : A.length + t < n := by omega
      clear hcell hfree hx hn
      go_wp2_with fail
      refine PC.out.mono ?_
      rintro e w1 ⟨rfl, rfl⟩
      rw [hxe]
      go_wp2
      go_roundg (n - (t + 1))
      case measure => rw [HG.out]; omega
      case rel =>
        refine ⟨t + 1, hlt, congrArg (Value.int .i64) (by omega), congrArg (Value.int .i64) (by omega), rfl, ?_, HM.out.2.set (.inl rfl) _⟩
        have := HM.out.1.set (A.length + t) (.int .i64 xt) (by omega)
        rw [hset.out] at this
        exact this
    · obtain rfl : t = B.length := by omega
      have c2 := hcell (A.length + B.length) (by omega)
      have f2 := hfree (A.length + B.length)
      have hcl : (Builtin.clear_ #[35] 0 #[.slice (some ⟨g, A.length + B.length, none⟩) 1 (cap - (A.length + B.length))]).run Try.prog wr = .ok (.tuple #[]) (wr.setCell ⟨g, A.length + B.length, none⟩ (.int .i64 0)) := Lib.run_clear_slice (P := Try.prog) wr 35 3 0 (.int .i64 0) Try.underlying35 zeroInt rfl rfl g (A.length + B.length) 1 (cap - (A.length + B.length)) (by decide) (fun j hj => by
        obtain rfl : j = 0 := by omega
        rw [Nat.add_zero, hcell _ (by omega), i64s_get _ _ (by rw [mid_length _ _ _ _ ht]; omega)]; rfl) (fun j hj => hfree _)
      have dl : decide ((A.length : Int) + 1 + (B.length : Int) < (n : Int)) = false := decide_eq_false (by omega)
      have dl2 : ¬ A.length + 1 + B.length < n := by omega
      have s1 : n - (A.length + B.length) = 1 := by omega
      have s2 : A.length + B.length ≤ n := by omega
      have s3 : ¬ cap = A.length + B.length := by omega
      have s4 : A.length + B.length < cap := by omega
      have s5 : A.length + B.length ≤ cap := by omega
      clear hcell hfree hn c2 f2
      go_wp2
      go_ret
      have hn := HNN.out
      have R := HM.out.1.set (A.length + B.length) (.int .i64 0) (by omega)
      refine ⟨congrArg (fun k => Ending.returned (.slice (some ⟨g, 0, none⟩) k cap)) (by omega), ?_, HM.out.2.set (.inl rfl) _⟩
      obtain ⟨_, ⟨h1, _, _⟩ | ⟨g2, cap2, cur, q1, q2, q3, q4, q5, q6, q7⟩⟩ := R
      · cases h1
      · cases q1; cases q2
        refine ⟨by rw [i64s_length, List.length_append]; omega, .inr ⟨g, cap, cur, rfl, rfl, q3, by omega, by omega, q6, ?_⟩⟩
        have e := mid_end A B y 0
        rw [← q7, List.take_take] at e
        rw [← e]
        congr 1
        omega
end Go.Proofs.Ytgedpgdefafofaa
