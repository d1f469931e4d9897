/- The walks of layer 18: Leave. -/
import Derived.Test.YtgedpgdefafofaaVotesC
namespace Go.Proofs.Ytgedpgdefafofaa
open Go Go.RowKit
set_option linter.unusedSimpArgs false

/-- without x -/
def vdel (L : VL) (x : Int) : VL := L.filter fun e => !(e.1 == x)
theorem vdel_none {L : VL} {x : Int} (h : ∀ e ∈ L, e.1 ≠ x) : vdel L x = L := by
  unfold vdel
  rw [List.filter_eq_self]
  intro e he
  simp [beq_false_of_ne (h e he)]
theorem vsplit {L : VL} {x : Int} (hd : (L.map Prod.fst).Nodup) (h : vhas L x = true) : ∃ A n B, L = A ++ (x, n) :: B ∧ (∀ e ∈ A, e.1 ≠ x) ∧ (∀ e ∈ B, e.1 ≠ x) ∧ vdel L x = A ++ B := by
  unfold vhas at h
  rw [List.any_eq_true] at h
  obtain ⟨e, he, hx⟩ := h
  obtain ⟨A, B, rfl⟩ := List.append_of_mem he
  have hx' : e.1 = x := by simpa using hx
  rw [List.map_append, List.map_cons, List.nodup_append] at hd
  obtain ⟨_, h2, h3⟩ := hd
  rw [List.nodup_cons] at h2
  have hA : ∀ e' ∈ A, e'.1 ≠ x := fun e' he' e2 => h3 e'.1 (List.mem_map.2 ⟨e', he', rfl⟩) e.1 (List.mem_cons_self ..) (by rw [e2, hx'])
  have hB : ∀ e' ∈ B, e'.1 ≠ x := fun e' he' e2 => h2.1 (by rw [hx', ← e2]; exact List.mem_map.2 ⟨e', he', rfl⟩)
  refine ⟨A, e.2, B, by rw [← hx'], hA, hB, ?_⟩
  have eA : A.filter (fun e => !(e.1 == x)) = A := vdel_none hA
  have eB : B.filter (fun e => !(e.1 == x)) = B := vdel_none hB
  unfold vdel
  rw [List.filter_append, eA, List.filter_cons, if_neg (by simp [hx']), eB]
theorem vmap_del (L : VL) (x : Int) : vmap (vdel L x) = fun y => if y = x then none else vmap L y := by
  funext y
  induction L with
  | nil => simp [vmap, vdel]
  | cons e r ih =>
    by_cases he : e.1 = x
    · have e1 : vdel (e :: r) x = vdel r x := by simp [vdel, he]
      rw [e1, ih]
      by_cases hy : y = x
      · rw [if_pos hy, if_pos hy]
      · rw [if_neg hy, if_neg hy]
        unfold vmap
        rw [List.find?_cons_of_neg (by simp [he]; exact fun h => hy h.symm)]
    · have e1 : vdel (e :: r) x = e :: vdel r x := by simp [vdel, he]
      rw [e1]
      by_cases hey : e.1 = y
      · unfold vmap
        rw [List.find?_cons_of_pos (by simp [hey]), List.find?_cons_of_pos (by simp [hey]), if_neg (by rw [← hey]; exact he)]
      · have e2 : vmap (e :: vdel r x) y = vmap (vdel r x) y := by unfold vmap; rw [List.find?_cons_of_neg (by simp [hey])]
        have e3 : vmap (e :: r) y = vmap r y := by unfold vmap; rw [List.find?_cons_of_neg (by simp [hey])]
        rw [e2, e3, ih]
theorem i64s_fst (L : VL) : (L.map fun e => Value.int .i64 e.1) = i64s (L.map Prod.fst) := by simp [i64s]
set_option maxHeartbeats 1600000 in
theorem pleave (p : Nat) (L : VL) (bm : Nat) (o : Option Nat) (x : Int) (w : World) (h : VAt w p L bm o) (hx : (Lit.int .i64 x).wf = true) (hl : L.length ≤ 1000000) (hd : (L.map Prod.fst).Nodup) :
    Calls Try.prog 6 #[.pointer (some ⟨p, 0, none⟩), .int .i64 x] w fun e w' => e = .returned (.int .i64 (if vhas L x then 0 else 200)) ∧ VGrew w w' p bm (vdel L x) o := by
  have hlt := h.lt
  have hmf : ∀ (fn : Fn) (first cap : Array Value) (w : World), (Instr.makeFunc fn first cap).run Try.prog w = .ok (.func fn first cap) w := fun _ _ _ _ => rfl
  have h0 := h.below ((Below.refl w.heap.size w).alloc (Nat.le_refl _) (.cells #[.int .i64 x] 3))
  have K0 := Lib.hid ((Keep.refl (foot3 p bm o) w).alloc (.cells #[.int .i64 x] 3))
  have hB0 := Blk.new w #[.int .i64 x] 3
  have cB0 := hB0.cell 0
  have hB := Lib.hid hB0
  have PH := phas p L bm o x _ h0 hx
  generalize hv' : vhas L x = bh at PH ⊢
  have PH := Lib.hid PH
  have HV := Lib.hid hv'
  clear hv'
  have H0 := Lib.hid h0
  obtain ⟨id, v, h1, h2, h3, h4⟩ := H0.out
  have c32 := h1.cell 32
  rw [vcs_32] at c32
  have PN := Lib.hid (pnone p bm _ c32)
  have HX := Lib.hid hx
  have HLT := Lib.hid (fun hk => Nat.lt_irrefl _ (hlt w.heap.size hk) : ¬ foot3 p bm o w.heap.size)
  clear h1 h2 h3 h4 h0 hx h c32 hB0 hlt
  go_enter Try.func6, Try.ntmps6
  go_upto_region 1 with fail
  generalize w.alloc (.cells #[.int .i64 x] 3) = w0 at *
  generalize hgw : w.heap.size = G at *
  go_wp2_with fail
  refine PN.out.mono ?_
  rintro e w1 ⟨rfl, rfl⟩
  go_wp2_with fail
  refine PH.out.mono ?_
  rintro e w2 ⟨rfl, hb⟩
  have H2 := Lib.hid (H0.out.below hb)
  have HB := Lib.hid (hB.out.beyond hb)
  have K2 := Lib.hid (K0.out.trans (Keep.of_below hb))
  clear hb cB0
  cases bh with
  | false =>
    have hv' := HV.out
    have HE := Lib.hid (vdel_none (L := L) (x := x) (fun e he h => by
      have : vhas L x = true := by unfold vhas; rw [List.any_eq_true]; exact ⟨e, he, by simp [h]⟩
      rw [hv'] at this; cases this))
    clear hv'
    go_wp2
    go_ret
    exact ⟨rfl, o, by rw [HE.out]; exact H2.out, fun g h => .inl h, K2.out⟩
  | true =>
    have hv' := HV.out
    obtain ⟨A, n, B, hL, hA, hBn, hdel⟩ := vsplit hd hv'
    have lenL : L.length = A.length + B.length + 1 := by rw [hL]; simp; omega
    obtain ⟨id, v, h1, h2, h3, n1, n2, n3⟩ := H2.out
    obtain ⟨w3, hrunD, m3, k3⟩ := h2.drew.drop Try.underlying3 Try.underlying46 HX.out 0
    rw [vmap_has, hv', if_pos rfl, ← vmap_del] at m3
    have k3' : Keep (fun k => k = bm) w2 w3 := ((Keep.refl _ w2).drew).trans k3
    have b3 := k3'.blk h1 (fun e => n1 e.symm)
    have r3 := h3.keep k3' (fun g hg e => n3 (by rw [hg, e]))
    rw [i64s_fst, hL, List.map_append, List.map_cons, ← hL] at r3
    obtain ⟨g, cap, rfl, rfl, _, _, hgl, _, _⟩ := r3.mem (by omega)
    have gG : G ≠ g := fun e => HLT.out (.inr (.inr (by rw [e])))
    have bG : G ≠ bm := fun e => HLT.out (.inr (.inl e))
    have B3 := k3'.blk HB.out bG
    have PD := Lib.hid (pdelf g L.length cap G (A.map Prod.fst) (B.map Prod.fst) x w3 (by simp; exact lenL) hl (fun y hy e => by obtain ⟨e', h1, rfl⟩ := List.mem_map.1 hy; exact hA e' h1 e) (fun y hy e => by obtain ⟨e', h1, rfl⟩ := List.mem_map.1 hy; exact hBn e' h1 e) gG r3 (B3.cell 0))
    have gp : g ≠ p := fun e => n2 (by rw [e])
    have gbm : g ≠ bm := fun e => n3 (by rw [e])
    have c32 := h1.drew.cell 32
    rw [vcs_32] at c32
    have c33 := b3.cell 33
    rw [vcs_33] at c33
    have cG := HB.out.drew.cell 0
    have HD := Lib.hid (And.intro hdel lenL)
    have H4 := Lib.hid (And.intro m3 (And.intro b3 (And.intro gp (And.intro gbm (And.intro n1 k3')))))
    clear h1 h2 h3 n1 n2 n3 m3 k3 k3' b3 r3 gp gbm hL hA hBn hdel lenL B3 hd hv'
    go_wp2
    go_region
    go_wp2_with fail
    refine PD.out.mono ?_
    rintro e w4 ⟨rfl, r4, k4⟩
    obtain ⟨m3, b3, gp, gbm, n1, k3⟩ := H4.out
    have b4 := k4.blk b3 (fun e => gp e.symm)
    have m4 := m3.keep k4 (fun e => gbm e.symm)
    have f33 := b4.free 33
    have s33 := b4.cell 33
    rw [vcs_33] at s33
    have H5 := Lib.hid (And.intro m4 (And.intro r4 (And.intro b4 (And.intro gp (And.intro gbm (And.intro n1 (And.intro k3 k4)))))))
    clear m3 b3 gp gbm n1 k3 b4 m4 r4 k4
    go_wp2
    go_ret
    obtain ⟨m4, r4, b4, gp, gbm, n1, k3, k4⟩ := H5.out
    obtain ⟨hdel, lenL⟩ := HD.out
    have K5 := (Keep.refl (fun k => k = p) w4).set (p := ⟨p, 33, none⟩) (.inl rfl) (.slice (some ⟨g, 0, none⟩) (L.length - 1) cap)
    have b5 := b4.set 33 (.slice (some ⟨g, 0, none⟩) (L.length - 1) cap)
    rw [vcs_set] at b5
    have hlen : (vdel L x).length = L.length - 1 := by rw [hdel, List.length_append]; omega
    refine ⟨rfl, some g, ⟨id, _, b5, ?_, ?_, n1, fun e => gp (by cases e; rfl), fun e => gbm (by cases e; rfl)⟩, fun g' e => .inl e, ?_⟩
    · rw [hlen]; exact m4.keep K5 n1
    · have := r4.keep K5 (fun k hk e => gp (by cases hk; exact e))
      rw [hlen, i64s_fst, hdel, List.map_append]
      exact this
    · exact ((K2.out.trans (k3.mono fun k e => .inr (.inl e))).trans (k4.mono fun k e => .inr (.inr (by rw [e])))).trans (K5.mono fun k e => .inl e)
end Go.Proofs.Ytgedpgdefafofaa
