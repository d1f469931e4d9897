import Derived.Test.YtbjbjgfjaopibaaGreatDoorLv27
import Derived.Test.YtbjbjgfjaopibaaGreatDoorLv24
section
/- The law's pair: both have the same. -/
namespace Go.Proofs.YtbjbjgfjaopibaaGreatDoor
open Go Go.RowKit
set_option linter.unusedSimpArgs false
set_option linter.unusedVariables false
set_option maxRecDepth 100000

theorem eqb_true {p1 p2 : Option Addr} {n c d : Nat} {xs : List Int} {w : World} (hx : xs.length = n) (h1 : Lib.BytesIn w p1 n xs) (h2 : Lib.BytesIn w p2 n xs) : Calls Tryz.prog 24 #[.slice p1 n c, .slice p2 n d] w fun e w' => e = .returned (.bool true) ∧ w' = w := by
  have h := Tryz.bytes_Equal_all p1 p2 n c n d xs xs w hx hx h1 h2
  rw [show (Lib.bytesOf xs == Lib.bytesOf xs) = true from beq_self_eq_true _] at h
  exact h
theorem eqs_true {w : World} {K : List ByteArray} {q1 q2 : Option Addr} {c1 c2 : Nat} {o1 o2 : Option Nat} (h1 : RowV w 9 1 (.slice q1 K.length c1) K.length (K.map .string) o1) (h2 : RowV w 9 1 (.slice q2 K.length c2) K.length (K.map .string) o2) (hl : K.length ≤ 9223372036854775807) :
    Calls Tryz.prog 30 #[.slice q1 K.length c1, .slice q2 K.length c2] w fun e w' => e = .returned (.bool true) ∧ Below w.heap.size w w' := by
  by_cases h0 : K.length = 0
  · rw [h0]
    refine (Tryz.slices_Equal_string_empty q1 q2 c1 0 c2 w (by decide)).mono ?_
    rintro e w' ⟨rfl, rfl⟩
    exact ⟨rfl, Below.refl _ _⟩
  · obtain ⟨g1, k1, _, e1, _, _, _, hc1, _⟩ := h1.mem (by omega)
    obtain ⟨g2, k2, _, e2, _, _, _, hc2, _⟩ := h2.mem (by omega)
    cases e1; cases e2
    have hcell : ∀ {g : Nat}, (∀ j, j < K.length * 1 → w.cell? ⟨g, j, none⟩ = (K.map Value.string)[j]?) → ∀ j, j < K.length → w.cell? ⟨g, 0 + j, none⟩ = some (.string (K.getD j ByteArray.empty)) := fun {g} h j hj => by
      rw [Nat.zero_add, h j (by omega)]
      simp [List.getD_eq_getElem?_getD, hj]
    refine (Tryz.slices_Equal_string g1 0 K.length c1 g2 0 K.length c2 K K w (Nat.le_refl _) (Nat.le_refl _) hl hl (hcell hc1) (hcell hc2)).mono ?_
    rintro e w' ⟨rfl, q, rfl⟩
    exact ⟨by rw [decide_eq_true rfl], below_drewN w q⟩
/-- both tapes, and the pair that points to them -/
structure TwoT (W w : World) (P p : Nat) (o : Option Nat) (y : Nat) (oy : Option Nat) (jv xv : Value) (xs : List Int) (sy ro fu : Int) : Prop where
  pt : HT TapeAt W w (fun k => foot y oy k ∨ k = P) p o xs sy ro fu
  dt : HT RefAt W w (fun k => foot p o k ∨ k = P) y oy xs sy ro fu
  pb : Blk w P #[jv, xv, .pointer (some ⟨p, 0, none⟩), .pointer (some ⟨y, 0, none⟩)] 36
  hP : W.heap.size ≤ P
/-- both journals -/
structure J2 (W w : World) (P p : Nat) (o : Option Nat) (j b y : Nat) (oy : Option Nat) (x : Nat) (s : JS) (L : List PairD) : Prop where
  ph : PH W w (fun k => fd y oy x k ∨ k = P) p o j b s
  dh : DH W w (fun k => fp p o j b k ∨ k = P) y oy x s L
  pb : Blk w P #[.pointer (some ⟨j, 0, none⟩), .pointer (some ⟨x, 0, none⟩), .pointer (some ⟨p, 0, none⟩), .pointer (some ⟨y, 0, none⟩)] 36
  hP : W.heap.size ≤ P
section
variable {W w w' : World} {P p j b y x : Nat} {o oy : Option Nat} {jv xv : Value} {xs : List Int} {sy ro fu : Int} {s : JS} {L : List PairD}
theorem J2.t2 (h : J2 W w P p o j b y oy x s L) : TwoT W w P p o y oy (.pointer (some ⟨j, 0, none⟩)) (.pointer (some ⟨x, 0, none⟩)) s.xs s.sy s.ro s.fu :=
  ⟨h.ph.t.step tkp (Keep.refl (fun _ => False) w) (fun _ h => h.elim) (fun k hk => ⟨.inl (hk.imp .inl id), h.ph.t.fl k (hk.imp .inl id)⟩), h.dh.t.step tkd (Keep.refl (fun _ => False) w) (fun _ h => h.elim) (fun k hk => ⟨.inl (hk.imp .inl id), h.dh.t.fl k (hk.imp .inl id)⟩), h.pb, h.hP⟩
theorem TwoT.more (h : TwoT W w P p o y oy jv xv xs sy ro fu) (hb : Below w.heap.size w w') : TwoT W w' P p o y oy jv xv xs sy ro fu :=
  ⟨h.pt.step tkp (Keep.of_below (X := fun _ => False) hb) (fun _ h => h.elim) (fun k hk => ⟨.inl hk, Nat.lt_of_lt_of_le (h.pt.fl k hk) hb.size⟩), h.dt.step tkd (Keep.of_below (X := fun _ => False) hb) (fun _ h => h.elim) (fun k hk => ⟨.inl hk, Nat.lt_of_lt_of_le (h.dt.fl k hk) hb.size⟩), h.pb.beyond hb, h.hP⟩
theorem J2.more (h : J2 W w P p o j b y oy x s L) (hb : Below w.heap.size w w') : J2 W w' P p o j b y oy x s L :=
  ⟨h.ph.step (Keep.of_below (X := fun _ => False) hb) (fun _ h => h.elim) (fun k hk => ⟨.inl hk, Nat.lt_of_lt_of_le (h.ph.t.fl k hk) hb.size⟩), h.dh.step (Keep.of_below (X := fun _ => False) hb) (fun _ h => h.elim) (fun k hk => ⟨.inl hk, Nat.lt_of_lt_of_le (h.dh.t.fl k hk) hb.size⟩), h.pb.beyond hb, h.hP⟩
end
set_option maxHeartbeats 6400000 in
theorem psame_nil {W w : World} {P p y : Nat} {o oy : Option Nat} {xs : List Int} {sy ro fu : Int} (h : TwoT W w P p o y oy (.pointer none) (.pointer none) xs sy ro fu) :
    Calls Tryz.prog 8 #[.pointer (some ⟨P, 0, none⟩)] w fun e w' => e = .returned (.bool true) ∧ Below w.heap.size w w' := by
  have c0 := h.pb.cell 0
  have c1 := h.pb.cell 1
  have c2 := h.pb.cell 2
  have c3 := h.pb.cell 3
  have hPl := h.pb.lt
  obtain ⟨vT, hbT, hrT, hoT⟩ := h.dt.at'
  obtain ⟨q2, cc2, rfl, hy2, _, _, _⟩ := hrT.form
  have d0 := hbT.cell 0
  have d1 := hbT.cell 1
  have hyl := hbT.lt
  have PB : ∀ v, Below w.heap.size w v → Calls Tryz.prog 25 #[.pointer (some ⟨p, 0, none⟩)] v fun e w' => ∃ q c o', e = .returned (.slice q xs.length c) ∧ Row w' 5 (.slice q xs.length c) xs o' ∧ (∀ g, o' = some g → v.heap.size ≤ g) ∧ Below v.heap.size v w' := fun v hv => tbytes p xs sy ro fu o v (h.more hv).pt.at' (by have := h.pt.ok.len; omega)
  have PS : ∀ v, Below w.heap.size w v → Calls Tryz.prog 26 #[.pointer (some ⟨p, 0, none⟩)] v fun e w' => e = .returned (.int .i64 sy) ∧ v = w' := fun v hv => tsynced p xs sy ro fu o v (h.more hv).pt.at'
  have PB := Lib.hid PB
  have PS := Lib.hid PS
  have HY := Lib.hid (show ∀ v, Below w.heap.size w v → Lib.BytesIn v q2 xs.length xs from fun v hv => bytes_keep hy2 (Keep.of_below (X := fun _ => False) hv) (fun _ _ _ h => h))
  have HC := Lib.hid (fun v (hv : Below w.heap.size w v) => And.intro ((hv.cell (p := ⟨P, 0, none⟩) hPl).trans c0) (And.intro ((hv.cell (p := ⟨P, 1, none⟩) hPl).trans c1) (And.intro ((hv.cell (p := ⟨P, 2, none⟩) hPl).trans c2) (And.intro ((hv.cell (p := ⟨P, 3, none⟩) hPl).trans c3) (And.intro ((hv.cell (p := ⟨y, 0, none⟩) hyl).trans d0) ((hv.cell (p := ⟨y, 1, none⟩) hyl).trans d1))))))
  have HL := Lib.hid (And.intro hPl hyl)
  clear hbT hrT hoT hy2 hPl hyl
  have HH := Lib.hid h
  clear h
  go_enter Tryz.func8, Tryz.ntmps8
  go_upto_region 1 with fail
  refine wp_region_held_drew (S := fun w' => Below w.heap.size w w') (by kernel_rfl) ((Below.refl _ _).drew) (fun hS => ?_)
  refine tkH 0 (v := ?_) rfl (by kernel_rfl) ⟨by rfl, ?_⟩ hS ?_
  rotate_left
  · intro w0 hs; obtain ⟨s0, s1, s2, s3, s4, s5⟩ := HC.out _ hs; clear hs; go_simp; try (with_reducible rfl)
  try simp only [Act.put, List.setIfInBounds_toArray, List.set_cons_zero, List.set_cons_succ]
  refine tkH 1 (v := ?_) rfl (by kernel_rfl) ⟨by rfl, ?_⟩ hS ?_
  rotate_left
  · intro w0 hs; obtain ⟨s0, s1, s2, s3, s4, s5⟩ := HC.out _ hs; clear hs; go_simp; try (with_reducible rfl)
  try simp only [Act.put, List.setIfInBounds_toArray, List.set_cons_zero, List.set_cons_succ]
  refine tkH 2 (v := ?_) rfl (by kernel_rfl) ⟨by rfl, ?_⟩ hS ?_
  rotate_left
  · intro w0 hs; obtain ⟨s0, s1, s2, s3, s4, s5⟩ := HC.out _ hs; clear hs; go_simp; try (with_reducible rfl)
  try simp only [Act.put, List.setIfInBounds_toArray, List.set_cons_zero, List.set_cons_succ]
  refine tkH 3 (v := ?_) rfl (by kernel_rfl) ⟨by rfl, ?_⟩ hS ?_
  rotate_left
  · intro w0 hs; obtain ⟨s0, s1, s2, s3, s4, s5⟩ := HC.out _ hs; clear hs; go_simp; try (with_reducible rfl)
  try simp only [Act.put, List.setIfInBounds_toArray, List.set_cons_zero, List.set_cons_succ]
  refine tkH 5 (v := ?_) rfl (by kernel_rfl) ⟨by rfl, ?_⟩ hS ?_
  rotate_left
  · intro w0 hs; obtain ⟨s0, s1, s2, s3, s4, s5⟩ := HC.out _ hs; clear hs; go_simp; try (with_reducible rfl)
  try simp only [Act.put, List.setIfInBounds_toArray, List.set_cons_zero, List.set_cons_succ]
  refine tkH 6 (v := ?_) rfl (by kernel_rfl) ⟨by rfl, ?_⟩ hS ?_
  rotate_left
  · intro w0 hs; obtain ⟨s0, s1, s2, s3, s4, s5⟩ := HC.out _ hs; clear hs; go_simp; try (with_reducible rfl)
  try simp only [Act.put, List.setIfInBounds_toArray, List.set_cons_zero, List.set_cons_succ]
  refine tkH 7 (v := ?_) rfl (by kernel_rfl) ⟨by rfl, ?_⟩ hS ?_
  rotate_left
  · intro w0 hs; obtain ⟨s0, s1, s2, s3, s4, s5⟩ := HC.out _ hs; clear hs; go_simp; try (with_reducible rfl)
  try simp only [Act.put, List.setIfInBounds_toArray, List.set_cons_zero, List.set_cons_succ]
  refine tkH 8 (v := ?_) rfl (by kernel_rfl) ⟨by rfl, ?_⟩ hS ?_
  rotate_left
  · intro w0 hs; obtain ⟨s0, s1, s2, s3, s4, s5⟩ := HC.out _ hs; clear hs; go_simp; try (with_reducible rfl)
  try simp only [Act.put, List.setIfInBounds_toArray, List.set_cons_zero, List.set_cons_succ]
  refine tkH 9 (v := ?_) rfl (by kernel_rfl) ⟨by rfl, ?_⟩ hS ?_
  rotate_left
  · intro w0 hs; obtain ⟨s0, s1, s2, s3, s4, s5⟩ := HC.out _ hs; clear hs; go_simp; try (with_reducible rfl)
  try simp only [Act.put, List.setIfInBounds_toArray, List.set_cons_zero, List.set_cons_succ]
  refine tkH 10 (v := ?_) rfl (by kernel_rfl) ⟨by rfl, ?_⟩ hS ?_
  rotate_left
  · intro w0 hs; obtain ⟨s0, s1, s2, s3, s4, s5⟩ := HC.out _ hs; clear hs; go_simp; try (with_reducible rfl)
  try simp only [Act.put, List.setIfInBounds_toArray, List.set_cons_zero, List.set_cons_succ]
  refine tkH 11 (v := ?_) rfl (by kernel_rfl) ⟨by rfl, ?_⟩ hS ?_
  rotate_left
  · intro w0 hs; obtain ⟨s0, s1, s2, s3, s4, s5⟩ := HC.out _ hs; clear hs; go_simp; try (with_reducible rfl)
  try simp only [Act.put, List.setIfInBounds_toArray, List.set_cons_zero, List.set_cons_succ]
  refine wpAnyH_ready (rs := [4]) (by kernel_rfl) (by simp) ?_
  refine AllReadyH.cons (o := ⟨_, _, _, _, _, _⟩) rfl (fun K hK => ?_) AllReadyH.nil
  rw [if_pos (by rfl)]
  go_step
  refine (PB.out _ hS).mono ?_
  rintro e v1 ⟨qb, cb, ob, rfl, Rb, hob, hb1⟩
  simp only []
  refine hK.out _ _ (hS.trans (hb1.mono hS.size)) (fun hS' => ?_)
  clear hS hK
  have hS := hS'; clear hS'
  try simp only [Act.put, List.setIfInBounds_toArray, List.set_cons_zero, List.set_cons_succ]
  refine wpAnyH_ready (rs := [12]) (by kernel_rfl) (by simp) ?_
  refine AllReadyH.cons (o := ⟨_, _, _, _, _, _⟩) rfl (fun K hK => ?_) AllReadyH.nil
  rw [if_pos (by rfl)]
  go_step
  refine (eqb_true rfl (by obtain ⟨_, _, e2, hyy, _⟩ := Rb.form; cases e2; exact hyy) (HY.out _ hS)).mono ?_
  rintro e v2 ⟨rfl, rfl⟩
  simp only []
  refine hK.out _ _ hS (fun hS' => ?_)
  clear hS hK
  have hS := hS'; clear hS'
  try simp only [Act.put, List.setIfInBounds_toArray, List.set_cons_zero, List.set_cons_succ]
  refine tkH 13 (v := ?_) rfl (by kernel_rfl) ⟨by rfl, ?_⟩ hS ?_
  rotate_left
  · intro w0 hs; obtain ⟨s0, s1, s2, s3, s4, s5⟩ := HC.out _ hs; clear hs; go_simp; try (with_reducible rfl)
  try simp only [Act.put, List.setIfInBounds_toArray, List.set_cons_zero, List.set_cons_succ]
  refine tkH 14 (v := ?_) rfl (by kernel_rfl) ⟨by rfl, ?_⟩ hS ?_
  rotate_left
  · intro w0 hs; obtain ⟨s0, s1, s2, s3, s4, s5⟩ := HC.out _ hs; clear hs; go_simp; try (with_reducible rfl)
  try simp only [Act.put, List.setIfInBounds_toArray, List.set_cons_zero, List.set_cons_succ]
  refine tkH 15 (v := ?_) rfl (by kernel_rfl) ⟨by rfl, ?_⟩ hS ?_
  rotate_left
  · intro w0 hs; obtain ⟨s0, s1, s2, s3, s4, s5⟩ := HC.out _ hs; clear hs; go_simp; try (with_reducible rfl)
  try simp only [Act.put, List.setIfInBounds_toArray, List.set_cons_zero, List.set_cons_succ]
  refine tkH 16 (v := ?_) rfl (by kernel_rfl) ⟨by rfl, ?_⟩ hS ?_
  rotate_left
  · intro w0 hs; obtain ⟨s0, s1, s2, s3, s4, s5⟩ := HC.out _ hs; clear hs; go_simp; try (with_reducible rfl)
  try simp only [Act.put, List.setIfInBounds_toArray, List.set_cons_zero, List.set_cons_succ]
  refine tkH 17 (v := ?_) rfl (by kernel_rfl) ⟨by rfl, ?_⟩ hS ?_
  rotate_left
  · intro w0 hs; obtain ⟨s0, s1, s2, s3, s4, s5⟩ := HC.out _ hs; clear hs; go_simp; try (with_reducible rfl)
  try simp only [Act.put, List.setIfInBounds_toArray, List.set_cons_zero, List.set_cons_succ]
  refine tkH 18 (v := ?_) rfl (by kernel_rfl) ⟨by rfl, ?_⟩ hS ?_
  rotate_left
  · intro w0 hs; obtain ⟨s0, s1, s2, s3, s4, s5⟩ := HC.out _ hs; clear hs; go_simp; try (with_reducible rfl)
  try simp only [Act.put, List.setIfInBounds_toArray, List.set_cons_zero, List.set_cons_succ]
  refine tkH 20 (v := ?_) rfl (by kernel_rfl) ⟨by rfl, ?_⟩ hS ?_
  rotate_left
  · intro w0 hs; obtain ⟨s0, s1, s2, s3, s4, s5⟩ := HC.out _ hs; clear hs; go_simp; try (with_reducible rfl)
  try simp only [Act.put, List.setIfInBounds_toArray, List.set_cons_zero, List.set_cons_succ]
  refine tkH 21 (v := ?_) rfl (by kernel_rfl) ⟨by rfl, ?_⟩ hS ?_
  rotate_left
  · intro w0 hs; obtain ⟨s0, s1, s2, s3, s4, s5⟩ := HC.out _ hs; clear hs; go_simp; try (with_reducible rfl)
  try simp only [Act.put, List.setIfInBounds_toArray, List.set_cons_zero, List.set_cons_succ]
  refine tkH 22 (v := ?_) rfl (by kernel_rfl) ⟨by rfl, ?_⟩ hS ?_
  rotate_left
  · intro w0 hs; obtain ⟨s0, s1, s2, s3, s4, s5⟩ := HC.out _ hs; clear hs; go_simp; try (with_reducible rfl)
  try simp only [Act.put, List.setIfInBounds_toArray, List.set_cons_zero, List.set_cons_succ]
  refine tkH 23 (v := ?_) rfl (by kernel_rfl) ⟨by rfl, ?_⟩ hS ?_
  rotate_left
  · intro w0 hs; obtain ⟨s0, s1, s2, s3, s4, s5⟩ := HC.out _ hs; clear hs; go_simp; try (with_reducible rfl)
  try simp only [Act.put, List.setIfInBounds_toArray, List.set_cons_zero, List.set_cons_succ]
  refine tkH 24 (v := ?_) rfl (by kernel_rfl) ⟨by rfl, ?_⟩ hS ?_
  rotate_left
  · intro w0 hs; obtain ⟨s0, s1, s2, s3, s4, s5⟩ := HC.out _ hs; clear hs; go_simp; try (with_reducible rfl)
  try simp only [Act.put, List.setIfInBounds_toArray, List.set_cons_zero, List.set_cons_succ]
  refine tkH 25 (v := ?_) rfl (by kernel_rfl) ⟨by rfl, ?_⟩ hS ?_
  rotate_left
  · intro w0 hs; obtain ⟨s0, s1, s2, s3, s4, s5⟩ := HC.out _ hs; clear hs; go_simp; try (with_reducible rfl)
  try simp only [Act.put, List.setIfInBounds_toArray, List.set_cons_zero, List.set_cons_succ]
  refine tkH 26 (v := ?_) rfl (by kernel_rfl) ⟨by rfl, ?_⟩ hS ?_
  rotate_left
  · intro w0 hs; obtain ⟨s0, s1, s2, s3, s4, s5⟩ := HC.out _ hs; clear hs; go_simp; try (with_reducible rfl)
  try simp only [Act.put, List.setIfInBounds_toArray, List.set_cons_zero, List.set_cons_succ]
  refine wpAnyH_ready (rs := [19]) (by kernel_rfl) (by simp) ?_
  refine AllReadyH.cons (o := ⟨_, _, _, _, _, _⟩) rfl (fun K hK => ?_) AllReadyH.nil
  rw [if_pos (by rfl)]
  go_step
  refine (PS.out _ hS).mono ?_
  rintro e v3 ⟨rfl, rfl⟩
  simp only []
  refine hK.out _ _ hS (fun hS' => ?_)
  clear hS hK
  have hS := hS'; clear hS'
  try simp only [Act.put, List.setIfInBounds_toArray, List.set_cons_zero, List.set_cons_succ]
  refine tkH 27 (v := ?_) rfl (by kernel_rfl) ⟨by rfl, ?_⟩ hS ?_
  rotate_left
  · intro w0 hs; obtain ⟨s0, s1, s2, s3, s4, s5⟩ := HC.out _ hs; clear hs; go_simp; try (with_reducible rfl)
  try simp only [Act.put, List.setIfInBounds_toArray, List.set_cons_zero, List.set_cons_succ]
  refine tkH 28 (v := ?_) rfl (by kernel_rfl) ⟨by rfl, ?_⟩ hS ?_
  rotate_left
  · intro w0 hs; obtain ⟨s0, s1, s2, s3, s4, s5⟩ := HC.out _ hs; clear hs; go_simp; try (with_reducible rfl)
  try simp only [Act.put, List.setIfInBounds_toArray, List.set_cons_zero, List.set_cons_succ]
  refine tkH 29 (v := ?_) rfl (by kernel_rfl) ⟨by rfl, ?_⟩ hS ?_
  rotate_left
  · intro w0 hs; obtain ⟨s0, s1, s2, s3, s4, s5⟩ := HC.out _ hs; clear hs; go_simp; try (with_reducible rfl)
  try simp only [Act.put, List.setIfInBounds_toArray, List.set_cons_zero, List.set_cons_succ]
  refine tkH 30 (v := ?_) rfl (by kernel_rfl) ⟨by rfl, ?_⟩ hS ?_
  rotate_left
  · intro w0 hs; obtain ⟨s0, s1, s2, s3, s4, s5⟩ := HC.out _ hs; clear hs; go_simp; try (with_reducible rfl)
  try simp only [Act.put, List.setIfInBounds_toArray, List.set_cons_zero, List.set_cons_succ]
  refine tkH 31 (v := ?_) rfl (by kernel_rfl) ⟨by rfl, ?_⟩ hS ?_
  rotate_left
  · intro w0 hs; obtain ⟨s0, s1, s2, s3, s4, s5⟩ := HC.out _ hs; clear hs; go_simp; try (with_reducible rfl)
  try simp only [Act.put, List.setIfInBounds_toArray, List.set_cons_zero, List.set_cons_succ]
  refine tkH 32 (v := ?_) rfl (by kernel_rfl) ⟨by rfl, ?_⟩ hS ?_
  rotate_left
  · intro w0 hs; obtain ⟨s0, s1, s2, s3, s4, s5⟩ := HC.out _ hs; clear hs; go_simp; try (with_reducible rfl)
  try simp only [Act.put, List.setIfInBounds_toArray, List.set_cons_zero, List.set_cons_succ]
  refine tkH 33 (v := ?_) rfl (by kernel_rfl) ⟨by rfl, ?_⟩ hS ?_
  rotate_left
  · intro w0 hs; obtain ⟨s0, s1, s2, s3, s4, s5⟩ := HC.out _ hs; clear hs; go_simp; try (with_reducible rfl)
  try simp only [Act.put, List.setIfInBounds_toArray, List.set_cons_zero, List.set_cons_succ]
  refine tkH 34 (v := ?_) rfl (by kernel_rfl) ⟨by rfl, ?_⟩ hS ?_
  rotate_left
  · intro w0 hs; obtain ⟨s0, s1, s2, s3, s4, s5⟩ := HC.out _ hs; clear hs; go_simp; try (with_reducible rfl)
  try simp only [Act.put, List.setIfInBounds_toArray, List.set_cons_zero, List.set_cons_succ]
  refine tkH 35 (v := ?_) rfl (by kernel_rfl) ⟨by rfl, ?_⟩ hS ?_
  rotate_left
  · intro w0 hs; obtain ⟨s0, s1, s2, s3, s4, s5⟩ := HC.out _ hs; clear hs; go_simp; try (with_reducible rfl)
  try simp only [Act.put, List.setIfInBounds_toArray, List.set_cons_zero, List.set_cons_succ]
  refine tkH 36 (v := ?_) rfl (by kernel_rfl) ⟨by rfl, ?_⟩ hS ?_
  rotate_left
  · intro w0 hs; obtain ⟨s0, s1, s2, s3, s4, s5⟩ := HC.out _ hs; clear hs; go_simp; try (with_reducible rfl)
  try simp only [Act.put, List.setIfInBounds_toArray, List.set_cons_zero, List.set_cons_succ]
  refine tkH 37 (v := ?_) rfl (by kernel_rfl) ⟨by rfl, ?_⟩ hS ?_
  rotate_left
  · intro w0 hs; obtain ⟨s0, s1, s2, s3, s4, s5⟩ := HC.out _ hs; clear hs; go_simp; try (with_reducible rfl)
  try simp only [Act.put, List.setIfInBounds_toArray, List.set_cons_zero, List.set_cons_succ]
  refine tkH 38 (v := ?_) rfl (by kernel_rfl) ⟨by rfl, ?_⟩ hS ?_
  rotate_left
  · intro w0 hs; obtain ⟨s0, s1, s2, s3, s4, s5⟩ := HC.out _ hs; clear hs; go_simp; try (with_reducible rfl)
  try simp only [Act.put, List.setIfInBounds_toArray, List.set_cons_zero, List.set_cons_succ]
  refine tkH 39 (v := ?_) rfl (by kernel_rfl) ⟨by rfl, ?_⟩ hS ?_
  rotate_left
  · intro w0 hs; obtain ⟨s0, s1, s2, s3, s4, s5⟩ := HC.out _ hs; clear hs; go_simp; try (with_reducible rfl)
  try simp only [Act.put, List.setIfInBounds_toArray, List.set_cons_zero, List.set_cons_succ]
  refine tkH 40 (v := ?_) rfl (by kernel_rfl) ⟨by rfl, ?_⟩ hS ?_
  rotate_left
  · intro w0 hs; obtain ⟨s0, s1, s2, s3, s4, s5⟩ := HC.out _ hs; clear hs; go_simp; try (with_reducible rfl)
  try simp only [Act.put, List.setIfInBounds_toArray, List.set_cons_zero, List.set_cons_succ]
  refine tkH 41 (v := ?_) rfl (by kernel_rfl) ⟨by rfl, ?_⟩ hS ?_
  rotate_left
  · intro w0 hs; obtain ⟨s0, s1, s2, s3, s4, s5⟩ := HC.out _ hs; clear hs; go_simp; try (with_reducible rfl)
  try simp only [Act.put, List.setIfInBounds_toArray, List.set_cons_zero, List.set_cons_succ]
  refine wpAnyH_done (by kernel_rfl) ?_ _
  have c1' := (hS.cell (p := ⟨P, 1, none⟩) HL.out.1).trans c1
  have HS := Lib.hid hS
  clear c0 c1 c2 c3 d0 d1
  go_wp2
  go_ret
  exact ⟨rfl, HS.out⟩
set_option maxHeartbeats 12800000 in
theorem psame {W w : World} {P p j b y x : Nat} {o oy : Option Nat} {s : JS} {L : List PairD} (h : J2 W w P p o j b y oy x s L) :
    Calls Tryz.prog 8 #[.pointer (some ⟨P, 0, none⟩)] w fun e w' => e = .returned (.bool true) ∧ Below w.heap.size w w' := by
  obtain ⟨xs, sy, ro, fu, l, n, hd⟩ := s
  have hJ := h
  have h := hJ.t2
  change TwoT W w P p o y oy _ _ xs sy ro fu at h
  have c0 := h.pb.cell 0
  have c1 := h.pb.cell 1
  have c2 := h.pb.cell 2
  have c3 := h.pb.cell 3
  have hPl := h.pb.lt
  obtain ⟨vT, hbT, hrT, hoT⟩ := h.dt.at'
  obtain ⟨q2, cc2, rfl, hy2, _, _, _⟩ := hrT.form
  have d0 := hbT.cell 0
  have d1 := hbT.cell 1
  have hyl := hbT.lt
  have PB : ∀ v, Below w.heap.size w v → Calls Tryz.prog 25 #[.pointer (some ⟨p, 0, none⟩)] v fun e w' => ∃ q c o', e = .returned (.slice q xs.length c) ∧ Row w' 5 (.slice q xs.length c) xs o' ∧ (∀ g, o' = some g → v.heap.size ≤ g) ∧ Below v.heap.size v w' := fun v hv => tbytes p xs sy ro fu o v (h.more hv).pt.at' (by have := h.pt.ok.len; omega)
  have PS : ∀ v, Below w.heap.size w v → Calls Tryz.prog 26 #[.pointer (some ⟨p, 0, none⟩)] v fun e w' => e = .returned (.int .i64 sy) ∧ v = w' := fun v hv => tsynced p xs sy ro fu o v (h.more hv).pt.at'
  have PB := Lib.hid PB
  have PS := Lib.hid PS
  have HY := Lib.hid (show ∀ v, Below w.heap.size w v → Lib.BytesIn v q2 xs.length xs from fun v hv => bytes_keep hy2 (Keep.of_below (X := fun _ => False) hv) (fun _ _ _ h => h))
  have HC := Lib.hid (fun v (hv : Below w.heap.size w v) => And.intro ((hv.cell (p := ⟨P, 0, none⟩) hPl).trans c0) (And.intro ((hv.cell (p := ⟨P, 1, none⟩) hPl).trans c1) (And.intro ((hv.cell (p := ⟨P, 2, none⟩) hPl).trans c2) (And.intro ((hv.cell (p := ⟨P, 3, none⟩) hPl).trans c3) (And.intro ((hv.cell (p := ⟨y, 0, none⟩) hyl).trans d0) ((hv.cell (p := ⟨y, 1, none⟩) hyl).trans d1))))))
  have HL := Lib.hid (And.intro hPl hyl)
  clear hbT hrT hoT hy2 hPl hyl
  have hok := hJ.ph.ok
  obtain ⟨lv, hbx, hvx⟩ := hJ.dh.blk
  have e2 := hbx.cell 2
  have e3 := hbx.cell 3
  have hxl := hbx.lt
  change w.cell? ⟨x, 2, none⟩ = some (.int .i64 (n : Int)) at e2
  change w.cell? ⟨x, 3, none⟩ = some (.bool hd) at e3
  have hll : l.length ≤ 16777216 := Nat.le_trans hok.ll hok.len
  have hLl : L.length ≤ 100000000 := by
    have e : L.length = l.length := by rw [← List.length_map (f := pairX), hJ.dh.lm]
    omega
  have hKs : ∀ z ∈ L, z.key.size ≤ 1048576 ∧ z.val.z.length ≤ 1048576 := fun z hz => by
    have h1 := hok.kv (pairX z) (by have hlm : L.map pairX = l := hJ.dh.lm; show pairX z ∈ l; rw [← hlm]; exact List.mem_map_of_mem hz)
    have h2 : (bsK z.key).length ≤ 100 := h1.1
    have h3 : z.val.z.length ≤ 60000 := h1.2.1
    rw [bsK_len] at h2
    exact ⟨by omega, by omega⟩
  have hgl : ∀ k, ((getK l k).getD []).length ≤ 60000 := fun k => by
    cases hg : getK l k with
    | none => simp
    | some z =>
      unfold getK at hg
      rw [Option.map_eq_some_iff] at hg
      obtain ⟨q, hq, rfl⟩ := hg
      exact (hok.kv q (List.mem_of_find?_eq_some hq)).2.1
  have RK : ∀ v, Below w.heap.size w v → ∀ pr : ByteArray, pr.size ≤ 1048576 → Calls Tryz.prog 27 #[.pointer (some ⟨x, 0, none⟩), .string pr] v fun e w' => ∃ q c o, e = .returned (.slice q (pfx l pr).length c) ∧ RowV w' 9 1 (.slice q (pfx l pr).length c) (pfx l pr).length ((pfx l pr).map .string) o ∧ (∀ g, o = some g → v.heap.size ≤ g) ∧ Below v.heap.size v w' := fun v hv pr hpr => by
    have h := rkeys x _ lv _ _ L _ pr v (hbx.beyond hv) (hvx.more hv) hLl hpr (fun z hz => (hKs z hz).1)
    rw [hJ.dh.lm] at h
    exact h
  have PK : ∀ v, Below w.heap.size w v → ∀ pr : ByteArray, Calls Tryz.prog 31 #[.pointer (some ⟨j, 0, none⟩), .string pr] v fun e w' => ∃ q c o, e = .returned (.slice q (pfx l pr).length c) ∧ RowV w' 9 1 (.slice q (pfx l pr).length c) (pfx l pr).length ((pfx l pr).map .string) o ∧ (∀ g, o = some g → v.heap.size ≤ g) ∧ Below v.heap.size v w' := fun v hv pr => by
    have hja := hJ.ph.jat.more hv
    exact jkeysP j b ⟨p, 0, none⟩ _ _ l _ pr v hja.1 hja.2.1 hok.srt (fun q hq => (hok.kv q hq).1) (by omega)
  have RG : ∀ v, Below w.heap.size w v → ∀ k : ByteArray, Calls Tryz.prog 29 #[.pointer (some ⟨x, 0, none⟩), .string k] v (GetPost (getK l (bsK k)) v) := fun v hv k => by
    have h := rget x _ lv _ _ L _ k v (hbx.beyond hv) (hvx.more hv) hLl (fun z hz => (hKs z hz).2)
    rw [hJ.dh.lm] at h
    exact h
  have PG : ∀ v, Below w.heap.size w v → ∀ k : ByteArray, k.size ≤ 140737488351232 → Calls Tryz.prog 28 #[.pointer (some ⟨j, 0, none⟩), .string k] v (GetPost (getK l (bsK k)) v) := fun v hv k hk => by
    have hja := hJ.ph.jat.more hv
    exact jget j b ⟨p, 0, none⟩ _ _ l _ k v hja.1 hja.2.1 hk (by have := hgl (bsK k); omega)
  have PN : ∀ v, Below w.heap.size w v → Calls Tryz.prog 32 #[.pointer (some ⟨j, 0, none⟩)] v fun e w' => e = .returned (.int .i64 (n : Int)) ∧ w' = v := fun v hv => jbatches j ⟨p, 0, none⟩ _ _ _ v (hJ.ph.jat.more hv).1
  have PD : ∀ v, Below w.heap.size w v → Calls Tryz.prog 33 #[.pointer (some ⟨j, 0, none⟩)] v fun e w' => e = .returned (.bool hd) ∧ w' = v := fun v hv => jhalted j ⟨p, 0, none⟩ _ _ _ v (hJ.ph.jat.more hv).1
  have hkk : ∀ k ∈ pfx l ⟨#[]⟩, k.size ≤ 140737488351232 := fun k hk => by
    unfold pfx at hk
    obtain ⟨q, hq, rfl⟩ := List.mem_map.1 (List.mem_filter.1 hk).1
    have h1 := (hok.kv q hq).1
    rw [← bsK_len, bsK_sK]; omega
  have hpl := pfx_len l
  have RK := Lib.hid RK
  have PK := Lib.hid PK
  have RG := Lib.hid RG
  have PG := Lib.hid PG
  have PN := Lib.hid PN
  have PD := Lib.hid PD
  have HC2 := Lib.hid (fun v (hv : Below w.heap.size w v) => And.intro ((hv.cell (p := ⟨P, 0, none⟩) HL.out.1).trans c0) (And.intro ((hv.cell (p := ⟨P, 1, none⟩) HL.out.1).trans c1) (And.intro ((hv.cell (p := ⟨x, 2, none⟩) hxl).trans e2) ((hv.cell (p := ⟨x, 3, none⟩) hxl).trans e3))))
  have HH := Lib.hid (And.intro hxl (And.intro hll (And.intro hkk hpl)))
  clear h hJ hok hbx hvx hxl hll hLl hKs hgl hkk hpl
  go_enter Tryz.func8, Tryz.ntmps8
  go_upto_region 1 with fail
  refine wp_region_held_drew (S := fun w' => Below w.heap.size w w') (by kernel_rfl) ((Below.refl _ _).drew) (fun hS => ?_)
  refine tkH 0 (v := ?_) rfl (by kernel_rfl) ⟨by rfl, ?_⟩ hS ?_
  rotate_left
  · intro w0 hs; obtain ⟨s0, s1, s2, s3, s4, s5⟩ := HC.out _ hs; clear hs; go_simp; try (with_reducible rfl)
  try simp only [Act.put, List.setIfInBounds_toArray, List.set_cons_zero, List.set_cons_succ]
  refine tkH 1 (v := ?_) rfl (by kernel_rfl) ⟨by rfl, ?_⟩ hS ?_
  rotate_left
  · intro w0 hs; obtain ⟨s0, s1, s2, s3, s4, s5⟩ := HC.out _ hs; clear hs; go_simp; try (with_reducible rfl)
  try simp only [Act.put, List.setIfInBounds_toArray, List.set_cons_zero, List.set_cons_succ]
  refine tkH 2 (v := ?_) rfl (by kernel_rfl) ⟨by rfl, ?_⟩ hS ?_
  rotate_left
  · intro w0 hs; obtain ⟨s0, s1, s2, s3, s4, s5⟩ := HC.out _ hs; clear hs; go_simp; try (with_reducible rfl)
  try simp only [Act.put, List.setIfInBounds_toArray, List.set_cons_zero, List.set_cons_succ]
  refine tkH 3 (v := ?_) rfl (by kernel_rfl) ⟨by rfl, ?_⟩ hS ?_
  rotate_left
  · intro w0 hs; obtain ⟨s0, s1, s2, s3, s4, s5⟩ := HC.out _ hs; clear hs; go_simp; try (with_reducible rfl)
  try simp only [Act.put, List.setIfInBounds_toArray, List.set_cons_zero, List.set_cons_succ]
  refine tkH 5 (v := ?_) rfl (by kernel_rfl) ⟨by rfl, ?_⟩ hS ?_
  rotate_left
  · intro w0 hs; obtain ⟨s0, s1, s2, s3, s4, s5⟩ := HC.out _ hs; clear hs; go_simp; try (with_reducible rfl)
  try simp only [Act.put, List.setIfInBounds_toArray, List.set_cons_zero, List.set_cons_succ]
  refine tkH 6 (v := ?_) rfl (by kernel_rfl) ⟨by rfl, ?_⟩ hS ?_
  rotate_left
  · intro w0 hs; obtain ⟨s0, s1, s2, s3, s4, s5⟩ := HC.out _ hs; clear hs; go_simp; try (with_reducible rfl)
  try simp only [Act.put, List.setIfInBounds_toArray, List.set_cons_zero, List.set_cons_succ]
  refine tkH 7 (v := ?_) rfl (by kernel_rfl) ⟨by rfl, ?_⟩ hS ?_
  rotate_left
  · intro w0 hs; obtain ⟨s0, s1, s2, s3, s4, s5⟩ := HC.out _ hs; clear hs; go_simp; try (with_reducible rfl)
  try simp only [Act.put, List.setIfInBounds_toArray, List.set_cons_zero, List.set_cons_succ]
  refine tkH 8 (v := ?_) rfl (by kernel_rfl) ⟨by rfl, ?_⟩ hS ?_
  rotate_left
  · intro w0 hs; obtain ⟨s0, s1, s2, s3, s4, s5⟩ := HC.out _ hs; clear hs; go_simp; try (with_reducible rfl)
  try simp only [Act.put, List.setIfInBounds_toArray, List.set_cons_zero, List.set_cons_succ]
  refine tkH 9 (v := ?_) rfl (by kernel_rfl) ⟨by rfl, ?_⟩ hS ?_
  rotate_left
  · intro w0 hs; obtain ⟨s0, s1, s2, s3, s4, s5⟩ := HC.out _ hs; clear hs; go_simp; try (with_reducible rfl)
  try simp only [Act.put, List.setIfInBounds_toArray, List.set_cons_zero, List.set_cons_succ]
  refine tkH 10 (v := ?_) rfl (by kernel_rfl) ⟨by rfl, ?_⟩ hS ?_
  rotate_left
  · intro w0 hs; obtain ⟨s0, s1, s2, s3, s4, s5⟩ := HC.out _ hs; clear hs; go_simp; try (with_reducible rfl)
  try simp only [Act.put, List.setIfInBounds_toArray, List.set_cons_zero, List.set_cons_succ]
  refine tkH 11 (v := ?_) rfl (by kernel_rfl) ⟨by rfl, ?_⟩ hS ?_
  rotate_left
  · intro w0 hs; obtain ⟨s0, s1, s2, s3, s4, s5⟩ := HC.out _ hs; clear hs; go_simp; try (with_reducible rfl)
  try simp only [Act.put, List.setIfInBounds_toArray, List.set_cons_zero, List.set_cons_succ]
  refine wpAnyH_ready (rs := [4]) (by kernel_rfl) (by simp) ?_
  refine AllReadyH.cons (o := ⟨_, _, _, _, _, _⟩) rfl (fun K hK => ?_) AllReadyH.nil
  rw [if_pos (by rfl)]
  go_step
  refine (PB.out _ hS).mono ?_
  rintro e v1 ⟨qb, cb, ob, rfl, Rb, hob, hb1⟩
  simp only []
  refine hK.out _ _ (hS.trans (hb1.mono hS.size)) (fun hS' => ?_)
  clear hS hK
  have hS := hS'; clear hS'
  try simp only [Act.put, List.setIfInBounds_toArray, List.set_cons_zero, List.set_cons_succ]
  refine wpAnyH_ready (rs := [12]) (by kernel_rfl) (by simp) ?_
  refine AllReadyH.cons (o := ⟨_, _, _, _, _, _⟩) rfl (fun K hK => ?_) AllReadyH.nil
  rw [if_pos (by rfl)]
  go_step
  refine (eqb_true rfl (by obtain ⟨_, _, e2, hyy, _⟩ := Rb.form; cases e2; exact hyy) (HY.out _ hS)).mono ?_
  rintro e v2 ⟨rfl, rfl⟩
  simp only []
  refine hK.out _ _ hS (fun hS' => ?_)
  clear hS hK
  have hS := hS'; clear hS'
  try simp only [Act.put, List.setIfInBounds_toArray, List.set_cons_zero, List.set_cons_succ]
  refine tkH 13 (v := ?_) rfl (by kernel_rfl) ⟨by rfl, ?_⟩ hS ?_
  rotate_left
  · intro w0 hs; obtain ⟨s0, s1, s2, s3, s4, s5⟩ := HC.out _ hs; clear hs; go_simp; try (with_reducible rfl)
  try simp only [Act.put, List.setIfInBounds_toArray, List.set_cons_zero, List.set_cons_succ]
  refine tkH 14 (v := ?_) rfl (by kernel_rfl) ⟨by rfl, ?_⟩ hS ?_
  rotate_left
  · intro w0 hs; obtain ⟨s0, s1, s2, s3, s4, s5⟩ := HC.out _ hs; clear hs; go_simp; try (with_reducible rfl)
  try simp only [Act.put, List.setIfInBounds_toArray, List.set_cons_zero, List.set_cons_succ]
  refine tkH 15 (v := ?_) rfl (by kernel_rfl) ⟨by rfl, ?_⟩ hS ?_
  rotate_left
  · intro w0 hs; obtain ⟨s0, s1, s2, s3, s4, s5⟩ := HC.out _ hs; clear hs; go_simp; try (with_reducible rfl)
  try simp only [Act.put, List.setIfInBounds_toArray, List.set_cons_zero, List.set_cons_succ]
  refine tkH 16 (v := ?_) rfl (by kernel_rfl) ⟨by rfl, ?_⟩ hS ?_
  rotate_left
  · intro w0 hs; obtain ⟨s0, s1, s2, s3, s4, s5⟩ := HC.out _ hs; clear hs; go_simp; try (with_reducible rfl)
  try simp only [Act.put, List.setIfInBounds_toArray, List.set_cons_zero, List.set_cons_succ]
  refine tkH 17 (v := ?_) rfl (by kernel_rfl) ⟨by rfl, ?_⟩ hS ?_
  rotate_left
  · intro w0 hs; obtain ⟨s0, s1, s2, s3, s4, s5⟩ := HC.out _ hs; clear hs; go_simp; try (with_reducible rfl)
  try simp only [Act.put, List.setIfInBounds_toArray, List.set_cons_zero, List.set_cons_succ]
  refine tkH 18 (v := ?_) rfl (by kernel_rfl) ⟨by rfl, ?_⟩ hS ?_
  rotate_left
  · intro w0 hs; obtain ⟨s0, s1, s2, s3, s4, s5⟩ := HC.out _ hs; clear hs; go_simp; try (with_reducible rfl)
  try simp only [Act.put, List.setIfInBounds_toArray, List.set_cons_zero, List.set_cons_succ]
  refine tkH 20 (v := ?_) rfl (by kernel_rfl) ⟨by rfl, ?_⟩ hS ?_
  rotate_left
  · intro w0 hs; obtain ⟨s0, s1, s2, s3, s4, s5⟩ := HC.out _ hs; clear hs; go_simp; try (with_reducible rfl)
  try simp only [Act.put, List.setIfInBounds_toArray, List.set_cons_zero, List.set_cons_succ]
  refine tkH 21 (v := ?_) rfl (by kernel_rfl) ⟨by rfl, ?_⟩ hS ?_
  rotate_left
  · intro w0 hs; obtain ⟨s0, s1, s2, s3, s4, s5⟩ := HC.out _ hs; clear hs; go_simp; try (with_reducible rfl)
  try simp only [Act.put, List.setIfInBounds_toArray, List.set_cons_zero, List.set_cons_succ]
  refine tkH 22 (v := ?_) rfl (by kernel_rfl) ⟨by rfl, ?_⟩ hS ?_
  rotate_left
  · intro w0 hs; obtain ⟨s0, s1, s2, s3, s4, s5⟩ := HC.out _ hs; clear hs; go_simp; try (with_reducible rfl)
  try simp only [Act.put, List.setIfInBounds_toArray, List.set_cons_zero, List.set_cons_succ]
  refine tkH 23 (v := ?_) rfl (by kernel_rfl) ⟨by rfl, ?_⟩ hS ?_
  rotate_left
  · intro w0 hs; obtain ⟨s0, s1, s2, s3, s4, s5⟩ := HC.out _ hs; clear hs; go_simp; try (with_reducible rfl)
  try simp only [Act.put, List.setIfInBounds_toArray, List.set_cons_zero, List.set_cons_succ]
  refine tkH 24 (v := ?_) rfl (by kernel_rfl) ⟨by rfl, ?_⟩ hS ?_
  rotate_left
  · intro w0 hs; obtain ⟨s0, s1, s2, s3, s4, s5⟩ := HC.out _ hs; clear hs; go_simp; try (with_reducible rfl)
  try simp only [Act.put, List.setIfInBounds_toArray, List.set_cons_zero, List.set_cons_succ]
  refine tkH 25 (v := ?_) rfl (by kernel_rfl) ⟨by rfl, ?_⟩ hS ?_
  rotate_left
  · intro w0 hs; obtain ⟨s0, s1, s2, s3, s4, s5⟩ := HC.out _ hs; clear hs; go_simp; try (with_reducible rfl)
  try simp only [Act.put, List.setIfInBounds_toArray, List.set_cons_zero, List.set_cons_succ]
  refine tkH 26 (v := ?_) rfl (by kernel_rfl) ⟨by rfl, ?_⟩ hS ?_
  rotate_left
  · intro w0 hs; obtain ⟨s0, s1, s2, s3, s4, s5⟩ := HC.out _ hs; clear hs; go_simp; try (with_reducible rfl)
  try simp only [Act.put, List.setIfInBounds_toArray, List.set_cons_zero, List.set_cons_succ]
  refine wpAnyH_ready (rs := [19]) (by kernel_rfl) (by simp) ?_
  refine AllReadyH.cons (o := ⟨_, _, _, _, _, _⟩) rfl (fun K hK => ?_) AllReadyH.nil
  rw [if_pos (by rfl)]
  go_step
  refine (PS.out _ hS).mono ?_
  rintro e v3 ⟨rfl, rfl⟩
  simp only []
  refine hK.out _ _ hS (fun hS' => ?_)
  clear hS hK
  have hS := hS'; clear hS'
  try simp only [Act.put, List.setIfInBounds_toArray, List.set_cons_zero, List.set_cons_succ]
  refine tkH 27 (v := ?_) rfl (by kernel_rfl) ⟨by rfl, ?_⟩ hS ?_
  rotate_left
  · intro w0 hs; obtain ⟨s0, s1, s2, s3, s4, s5⟩ := HC.out _ hs; clear hs; go_simp; try (with_reducible rfl)
  try simp only [Act.put, List.setIfInBounds_toArray, List.set_cons_zero, List.set_cons_succ]
  refine tkH 28 (v := ?_) rfl (by kernel_rfl) ⟨by rfl, ?_⟩ hS ?_
  rotate_left
  · intro w0 hs; obtain ⟨s0, s1, s2, s3, s4, s5⟩ := HC.out _ hs; clear hs; go_simp; try (with_reducible rfl)
  try simp only [Act.put, List.setIfInBounds_toArray, List.set_cons_zero, List.set_cons_succ]
  refine tkH 29 (v := ?_) rfl (by kernel_rfl) ⟨by rfl, ?_⟩ hS ?_
  rotate_left
  · intro w0 hs; obtain ⟨s0, s1, s2, s3, s4, s5⟩ := HC.out _ hs; clear hs; go_simp; try (with_reducible rfl)
  try simp only [Act.put, List.setIfInBounds_toArray, List.set_cons_zero, List.set_cons_succ]
  refine tkH 30 (v := ?_) rfl (by kernel_rfl) ⟨by rfl, ?_⟩ hS ?_
  rotate_left
  · intro w0 hs; obtain ⟨s0, s1, s2, s3, s4, s5⟩ := HC.out _ hs; clear hs; go_simp; try (with_reducible rfl)
  try simp only [Act.put, List.setIfInBounds_toArray, List.set_cons_zero, List.set_cons_succ]
  refine tkH 31 (v := ?_) rfl (by kernel_rfl) ⟨by rfl, ?_⟩ hS ?_
  rotate_left
  · intro w0 hs; obtain ⟨s0, s1, s2, s3, s4, s5⟩ := HC.out _ hs; clear hs; go_simp; try (with_reducible rfl)
  try simp only [Act.put, List.setIfInBounds_toArray, List.set_cons_zero, List.set_cons_succ]
  refine tkH 32 (v := ?_) rfl (by kernel_rfl) ⟨by rfl, ?_⟩ hS ?_
  rotate_left
  · intro w0 hs; obtain ⟨s0, s1, s2, s3, s4, s5⟩ := HC.out _ hs; clear hs; go_simp; try (with_reducible rfl)
  try simp only [Act.put, List.setIfInBounds_toArray, List.set_cons_zero, List.set_cons_succ]
  refine tkH 33 (v := ?_) rfl (by kernel_rfl) ⟨by rfl, ?_⟩ hS ?_
  rotate_left
  · intro w0 hs; obtain ⟨s0, s1, s2, s3, s4, s5⟩ := HC.out _ hs; clear hs; go_simp; try (with_reducible rfl)
  try simp only [Act.put, List.setIfInBounds_toArray, List.set_cons_zero, List.set_cons_succ]
  refine tkH 34 (v := ?_) rfl (by kernel_rfl) ⟨by rfl, ?_⟩ hS ?_
  rotate_left
  · intro w0 hs; obtain ⟨s0, s1, s2, s3, s4, s5⟩ := HC.out _ hs; clear hs; go_simp; try (with_reducible rfl)
  try simp only [Act.put, List.setIfInBounds_toArray, List.set_cons_zero, List.set_cons_succ]
  refine tkH 35 (v := ?_) rfl (by kernel_rfl) ⟨by rfl, ?_⟩ hS ?_
  rotate_left
  · intro w0 hs; obtain ⟨s0, s1, s2, s3, s4, s5⟩ := HC.out _ hs; clear hs; go_simp; try (with_reducible rfl)
  try simp only [Act.put, List.setIfInBounds_toArray, List.set_cons_zero, List.set_cons_succ]
  refine tkH 36 (v := ?_) rfl (by kernel_rfl) ⟨by rfl, ?_⟩ hS ?_
  rotate_left
  · intro w0 hs; obtain ⟨s0, s1, s2, s3, s4, s5⟩ := HC.out _ hs; clear hs; go_simp; try (with_reducible rfl)
  try simp only [Act.put, List.setIfInBounds_toArray, List.set_cons_zero, List.set_cons_succ]
  refine tkH 37 (v := ?_) rfl (by kernel_rfl) ⟨by rfl, ?_⟩ hS ?_
  rotate_left
  · intro w0 hs; obtain ⟨s0, s1, s2, s3, s4, s5⟩ := HC.out _ hs; clear hs; go_simp; try (with_reducible rfl)
  try simp only [Act.put, List.setIfInBounds_toArray, List.set_cons_zero, List.set_cons_succ]
  refine tkH 38 (v := ?_) rfl (by kernel_rfl) ⟨by rfl, ?_⟩ hS ?_
  rotate_left
  · intro w0 hs; obtain ⟨s0, s1, s2, s3, s4, s5⟩ := HC.out _ hs; clear hs; go_simp; try (with_reducible rfl)
  try simp only [Act.put, List.setIfInBounds_toArray, List.set_cons_zero, List.set_cons_succ]
  refine tkH 39 (v := ?_) rfl (by kernel_rfl) ⟨by rfl, ?_⟩ hS ?_
  rotate_left
  · intro w0 hs; obtain ⟨s0, s1, s2, s3, s4, s5⟩ := HC.out _ hs; clear hs; go_simp; try (with_reducible rfl)
  try simp only [Act.put, List.setIfInBounds_toArray, List.set_cons_zero, List.set_cons_succ]
  refine tkH 40 (v := ?_) rfl (by kernel_rfl) ⟨by rfl, ?_⟩ hS ?_
  rotate_left
  · intro w0 hs; obtain ⟨s0, s1, s2, s3, s4, s5⟩ := HC.out _ hs; clear hs; go_simp; try (with_reducible rfl)
  try simp only [Act.put, List.setIfInBounds_toArray, List.set_cons_zero, List.set_cons_succ]
  refine tkH 41 (v := ?_) rfl (by kernel_rfl) ⟨by rfl, ?_⟩ hS ?_
  rotate_left
  · intro w0 hs; obtain ⟨s0, s1, s2, s3, s4, s5⟩ := HC.out _ hs; clear hs; go_simp; try (with_reducible rfl)
  try simp only [Act.put, List.setIfInBounds_toArray, List.set_cons_zero, List.set_cons_succ]
  refine wpAnyH_done (by kernel_rfl) ?_ _
  have c1' := (hS.cell (p := ⟨P, 1, none⟩) HL.out.1).trans c1
  have HS := Lib.hid hS
  clear hS
  go_upto_region 5 with fail
  go_wp2_with fail
  refine (RK.out _ HS.out ⟨#[]⟩ (by decide)).mono ?_
  rintro e v3 ⟨q, c, ok, rfl, hR, hok, hb3⟩
  have hb3w : Below w.heap.size w v3 := HS.out.trans (hb3.mono HS.out.size)
  obtain ⟨K, hK⟩ : ∃ K, K = pfx l ⟨#[]⟩ := ⟨_, rfl⟩
  rw [← hK] at hR ⊢
  obtain ⟨kl, hkl⟩ : ∃ kl, kl = K.length := ⟨_, rfl⟩
  have hkll : kl ≤ 16777216 := by rw [hkl, hK]; exact Nat.le_trans (HH.out.2.2.2 _) HH.out.2.1
  have HR := Lib.hid (And.intro hR (And.intro hb3w (And.intro hkl hK)))
  rw [← hkl]
  clear hR hok hb3 hb3w hkl hK c1'
  go_wp2
  go_loopg [62] kl (fun gh i wx => ∃ k : Nat, i = .int .i64 (k : Int) ∧ gh = kl - k ∧ k ≤ kl ∧ Hid (Below v3.heap.size v3 wx))
  case atStart => exact ⟨0, rfl, rfl, Nat.zero_le _, Below.refl _ _⟩
  case round =>
    obtain ⟨k, rfl, hg, hkn, HK⟩ := hrel
    have HG := Lib.hid hg
    clear hg
    have hbw : Below w.heap.size w wr := HR.out.2.1.trans (HK.out.mono HR.out.2.1.size)
    have s0 := (hbw.cell (p := ⟨P, 0, none⟩) HL.out.1).trans c0
    have s1 := (hbw.cell (p := ⟨P, 1, none⟩) HL.out.1).trans c1
    by_cases hlt : k < kl
    · obtain ⟨g7, k7, _, e7, _, _, hg7l, hc7, _⟩ := HR.out.1.mem (by rw [← HR.out.2.2.1]; omega)
      rw [← HR.out.2.2.1] at e7
      cases e7
      obtain ⟨key, hkey⟩ : ∃ key, K[k]? = some key := getElem?_lt (by rw [← HR.out.2.2.1]; exact hlt)
      have t0 : wr.cell? ⟨g7, k, none⟩ = some (.string key) := by
        rw [HK.out.cell (p := ⟨g7, k, none⟩) hg7l, hc7 k (by rw [← HR.out.2.2.1]; omega), List.getElem?_map, hkey]; rfl
      have hks : key.size ≤ 140737488351232 := HH.out.2.2.1 key (by rw [← HR.out.2.2.2]; exact List.mem_of_getElem? hkey)
      have HB := Lib.hid hbw
      have HKS := Lib.hid hks
      clear hbw hc7 hg7l hkey hks
      go_wp2_with fail
      refine (PG.out _ HB.out key HKS.out).mono ?_
      rintro e v4 ⟨q4, c4, o4, rfl, R4, ho4, hb4⟩
      have hb4w := HB.out.trans (hb4.mono HB.out.size)
      have s0 := (hb4w.cell (p := ⟨P, 0, none⟩) HL.out.1).trans c0
      have s1 := (hb4w.cell (p := ⟨P, 1, none⟩) HL.out.1).trans c1
      have H4 := Lib.hid (And.intro hb4 (And.intro hb4w R4))
      clear hb4 hb4w R4 ho4
      go_wp2_with fail
      refine (RG.out _ H4.out.2.1 key).mono ?_
      rintro e v5 ⟨q5, c5, o5, rfl, R5, ho5, hb5⟩
      have hb35 : Below v3.heap.size v3 v5 := HK.out.trans ((H4.out.1.trans (hb5.mono H4.out.1.size)).mono HK.out.size)
      have PE := eqb_true (p1 := q4) (p2 := q5) (c := c4) (d := c5) (xs := (getK l (bsK key)).getD []) rfl (by obtain ⟨_, _, e6, hyy, _⟩ := H4.out.2.2.form; cases e6; exact bytes_keep hyy (Keep.of_below (X := fun _ => False) hb5) (fun _ _ _ h => h)) (by obtain ⟨_, _, e6, hyy, _⟩ := R5.form; cases e6; exact hyy)
      have H5 := Lib.hid hb35
      clear R5 ho5 hb5 hb35
      generalize ((getK l (bsK key)).getD []).length = zl at *
      generalize (getK l (bsK key)).isSome = is at *
      have PE := Lib.hid PE
      cases is
      · skip
        go_wp2_with fail
        refine PE.out.mono ?_
        rintro e v6 ⟨rfl, rfl⟩
        go_wp2
        go_roundg (kl - (k + 1))
        case measure => rw [HG.out]; omega
        case rel => exact ⟨k + 1, by go_num, rfl, hlt, H5.out⟩
      · skip
        go_wp2_with fail
        refine PE.out.mono ?_
        rintro e v6 ⟨rfl, rfl⟩
        go_wp2
        go_roundg (kl - (k + 1))
        case measure => rw [HG.out]; omega
        case rel => exact ⟨k + 1, by go_num, rfl, hlt, H5.out⟩
    · obtain rfl : k = kl := by omega
      have HB := Lib.hid hbw
      clear hbw
      go_upto_region 13 with fail
      refine wp_region_held_drew (S := fun w' => Below w.heap.size w w') (by kernel_rfl) HB.out.drew (fun hS => ?_)
      refine tkH 0 (v := ?_) rfl (by kernel_rfl) ⟨by rfl, ?_⟩ hS ?_
      rotate_left
      · intro w0 hs; obtain ⟨s0, s1, s4, s5⟩ := HC2.out _ hs; clear hs; go_simp; try (with_reducible rfl)
      try simp only [Act.put, List.setIfInBounds_toArray, List.set_cons_zero, List.set_cons_succ]
      refine tkH 1 (v := ?_) rfl (by kernel_rfl) ⟨by rfl, ?_⟩ hS ?_
      rotate_left
      · intro w0 hs; obtain ⟨s0, s1, s4, s5⟩ := HC2.out _ hs; clear hs; go_simp; try (with_reducible rfl)
      try simp only [Act.put, List.setIfInBounds_toArray, List.set_cons_zero, List.set_cons_succ]
      refine tkH 2 (v := ?_) rfl (by kernel_rfl) ⟨by rfl, ?_⟩ hS ?_
      rotate_left
      · intro w0 hs; obtain ⟨s0, s1, s4, s5⟩ := HC2.out _ hs; clear hs; go_simp; try (with_reducible rfl)
      try simp only [Act.put, List.setIfInBounds_toArray, List.set_cons_zero, List.set_cons_succ]
      refine tkH 3 (v := ?_) rfl (by kernel_rfl) ⟨by rfl, ?_⟩ hS ?_
      rotate_left
      · intro w0 hs; obtain ⟨s0, s1, s4, s5⟩ := HC2.out _ hs; clear hs; go_simp; try (with_reducible rfl)
      try simp only [Act.put, List.setIfInBounds_toArray, List.set_cons_zero, List.set_cons_succ]
      refine tkH 5 (v := ?_) rfl (by kernel_rfl) ⟨by rfl, ?_⟩ hS ?_
      rotate_left
      · intro w0 hs; obtain ⟨s0, s1, s4, s5⟩ := HC2.out _ hs; clear hs; go_simp; try (with_reducible rfl)
      try simp only [Act.put, List.setIfInBounds_toArray, List.set_cons_zero, List.set_cons_succ]
      refine tkH 6 (v := ?_) rfl (by kernel_rfl) ⟨by rfl, ?_⟩ hS ?_
      rotate_left
      · intro w0 hs; obtain ⟨s0, s1, s4, s5⟩ := HC2.out _ hs; clear hs; go_simp; try (with_reducible rfl)
      try simp only [Act.put, List.setIfInBounds_toArray, List.set_cons_zero, List.set_cons_succ]
      refine tkH 7 (v := ?_) rfl (by kernel_rfl) ⟨by rfl, ?_⟩ hS ?_
      rotate_left
      · intro w0 hs; obtain ⟨s0, s1, s4, s5⟩ := HC2.out _ hs; clear hs; go_simp; try (with_reducible rfl)
      try simp only [Act.put, List.setIfInBounds_toArray, List.set_cons_zero, List.set_cons_succ]
      refine tkH 8 (v := ?_) rfl (by kernel_rfl) ⟨by rfl, ?_⟩ hS ?_
      rotate_left
      · intro w0 hs; obtain ⟨s0, s1, s4, s5⟩ := HC2.out _ hs; clear hs; go_simp; try (with_reducible rfl)
      try simp only [Act.put, List.setIfInBounds_toArray, List.set_cons_zero, List.set_cons_succ]
      refine wpAnyH_ready (rs := [4]) (by kernel_rfl) (by simp) ?_
      refine AllReadyH.cons (o := ⟨_, _, _, _, _, _⟩) rfl (fun K hK => ?_) AllReadyH.nil
      rw [if_pos (by rfl)]
      go_step
      refine (PK.out _ hS ⟨#[]⟩).mono ?_
      rintro e v4 ⟨q4, c4, o4, rfl, R4, ho4, hb4⟩
      simp only []
      refine hK.out _ _ (hS.trans (hb4.mono hS.size)) (fun hS' => ?_)
      clear hS hK
      have hS := hS'; clear hS'
      try simp only [Act.put, List.setIfInBounds_toArray, List.set_cons_zero, List.set_cons_succ]
      refine wpAnyH_ready (rs := [9]) (by kernel_rfl) (by simp) ?_
      refine AllReadyH.cons (o := ⟨_, _, _, _, _, _⟩) rfl (fun K hK => ?_) AllReadyH.nil
      rw [if_pos (by rfl)]
      go_step
      refine (RK.out _ hS ⟨#[]⟩ (by decide)).mono ?_
      rintro e v9 ⟨q9, c9, o9, rfl, R9, ho9, hb9⟩
      simp only []
      refine hK.out _ _ (hS.trans (hb9.mono hS.size)) (fun hS' => ?_)
      clear hS hK
      have hS := hS'; clear hS'
      try simp only [Act.put, List.setIfInBounds_toArray, List.set_cons_zero, List.set_cons_succ]
      refine wpAnyH_ready (rs := [10]) (by kernel_rfl) (by simp) ?_
      refine AllReadyH.cons (o := ⟨_, _, _, _, _, _⟩) rfl (fun K hK => ?_) AllReadyH.nil
      rw [if_pos (by rfl)]
      go_step
      refine (eqs_true (R4.keep (Keep.of_below (X := fun _ => False) hb9) (fun _ _ h => h)) R9 (by have := HH.out.2.2.2 ⟨#[]⟩; have := HH.out.2.1; omega)).mono ?_
      rintro e v10 ⟨rfl, hb10⟩
      simp only []
      refine hK.out _ _ (hS.trans (hb10.mono hS.size)) (fun hS' => ?_)
      clear hS hK
      have hS := hS'; clear hS'
      try simp only [Act.put, List.setIfInBounds_toArray, List.set_cons_zero, List.set_cons_succ]
      refine tkH 11 (v := ?_) rfl (by kernel_rfl) ⟨by rfl, ?_⟩ hS ?_
      rotate_left
      · intro w0 hs; obtain ⟨s0, s1, s4, s5⟩ := HC2.out _ hs; clear hs; go_simp; try (with_reducible rfl)
      try simp only [Act.put, List.setIfInBounds_toArray, List.set_cons_zero, List.set_cons_succ]
      refine tkH 12 (v := ?_) rfl (by kernel_rfl) ⟨by rfl, ?_⟩ hS ?_
      rotate_left
      · intro w0 hs; obtain ⟨s0, s1, s4, s5⟩ := HC2.out _ hs; clear hs; go_simp; try (with_reducible rfl)
      try simp only [Act.put, List.setIfInBounds_toArray, List.set_cons_zero, List.set_cons_succ]
      refine tkH 13 (v := ?_) rfl (by kernel_rfl) ⟨by rfl, ?_⟩ hS ?_
      rotate_left
      · intro w0 hs; obtain ⟨s0, s1, s4, s5⟩ := HC2.out _ hs; clear hs; go_simp; try (with_reducible rfl)
      try simp only [Act.put, List.setIfInBounds_toArray, List.set_cons_zero, List.set_cons_succ]
      refine tkH 14 (v := ?_) rfl (by kernel_rfl) ⟨by rfl, ?_⟩ hS ?_
      rotate_left
      · intro w0 hs; obtain ⟨s0, s1, s4, s5⟩ := HC2.out _ hs; clear hs; go_simp; try (with_reducible rfl)
      try simp only [Act.put, List.setIfInBounds_toArray, List.set_cons_zero, List.set_cons_succ]
      refine tkH 15 (v := ?_) rfl (by kernel_rfl) ⟨by rfl, ?_⟩ hS ?_
      rotate_left
      · intro w0 hs; obtain ⟨s0, s1, s4, s5⟩ := HC2.out _ hs; clear hs; go_simp; try (with_reducible rfl)
      try simp only [Act.put, List.setIfInBounds_toArray, List.set_cons_zero, List.set_cons_succ]
      refine tkH 17 (v := ?_) rfl (by kernel_rfl) ⟨by rfl, ?_⟩ hS ?_
      rotate_left
      · intro w0 hs; obtain ⟨s0, s1, s4, s5⟩ := HC2.out _ hs; clear hs; go_simp; try (with_reducible rfl)
      try simp only [Act.put, List.setIfInBounds_toArray, List.set_cons_zero, List.set_cons_succ]
      refine tkH 18 (v := ?_) rfl (by kernel_rfl) ⟨by rfl, ?_⟩ hS ?_
      rotate_left
      · intro w0 hs; obtain ⟨s0, s1, s4, s5⟩ := HC2.out _ hs; clear hs; go_simp; try (with_reducible rfl)
      try simp only [Act.put, List.setIfInBounds_toArray, List.set_cons_zero, List.set_cons_succ]
      refine tkH 19 (v := ?_) rfl (by kernel_rfl) ⟨by rfl, ?_⟩ hS ?_
      rotate_left
      · intro w0 hs; obtain ⟨s0, s1, s4, s5⟩ := HC2.out _ hs; clear hs; go_simp; try (with_reducible rfl)
      try simp only [Act.put, List.setIfInBounds_toArray, List.set_cons_zero, List.set_cons_succ]
      refine tkH 20 (v := ?_) rfl (by kernel_rfl) ⟨by rfl, ?_⟩ hS ?_
      rotate_left
      · intro w0 hs; obtain ⟨s0, s1, s4, s5⟩ := HC2.out _ hs; clear hs; go_simp; try (with_reducible rfl)
      try simp only [Act.put, List.setIfInBounds_toArray, List.set_cons_zero, List.set_cons_succ]
      refine wpAnyH_ready (rs := [16]) (by kernel_rfl) (by simp) ?_
      refine AllReadyH.cons (o := ⟨_, _, _, _, _, _⟩) rfl (fun K hK => ?_) AllReadyH.nil
      rw [if_pos (by rfl)]
      go_step
      refine (PK.out _ hS ⟨#[97]⟩).mono ?_
      rintro e v16 ⟨q16, c16, o16, rfl, R16, ho16, hb16⟩
      simp only []
      refine hK.out _ _ (hS.trans (hb16.mono hS.size)) (fun hS' => ?_)
      clear hS hK
      have hS := hS'; clear hS'
      try simp only [Act.put, List.setIfInBounds_toArray, List.set_cons_zero, List.set_cons_succ]
      refine wpAnyH_ready (rs := [21]) (by kernel_rfl) (by simp) ?_
      refine AllReadyH.cons (o := ⟨_, _, _, _, _, _⟩) rfl (fun K hK => ?_) AllReadyH.nil
      rw [if_pos (by rfl)]
      go_step
      refine (RK.out _ hS ⟨#[97]⟩ (by decide)).mono ?_
      rintro e v21 ⟨q21, c21, o21, rfl, R21, ho21, hb21⟩
      simp only []
      refine hK.out _ _ (hS.trans (hb21.mono hS.size)) (fun hS' => ?_)
      clear hS hK
      have hS := hS'; clear hS'
      try simp only [Act.put, List.setIfInBounds_toArray, List.set_cons_zero, List.set_cons_succ]
      refine wpAnyH_ready (rs := [22]) (by kernel_rfl) (by simp) ?_
      refine AllReadyH.cons (o := ⟨_, _, _, _, _, _⟩) rfl (fun K hK => ?_) AllReadyH.nil
      rw [if_pos (by rfl)]
      go_step
      refine (eqs_true (R16.keep (Keep.of_below (X := fun _ => False) hb21) (fun _ _ h => h)) R21 (by have := HH.out.2.2.2 ⟨#[97]⟩; have := HH.out.2.1; omega)).mono ?_
      rintro e v22 ⟨rfl, hb22⟩
      simp only []
      refine hK.out _ _ (hS.trans (hb22.mono hS.size)) (fun hS' => ?_)
      clear hS hK
      have hS := hS'; clear hS'
      try simp only [Act.put, List.setIfInBounds_toArray, List.set_cons_zero, List.set_cons_succ]
      refine tkH 23 (v := ?_) rfl (by kernel_rfl) ⟨by rfl, ?_⟩ hS ?_
      rotate_left
      · intro w0 hs; obtain ⟨s0, s1, s4, s5⟩ := HC2.out _ hs; clear hs; go_simp; try (with_reducible rfl)
      try simp only [Act.put, List.setIfInBounds_toArray, List.set_cons_zero, List.set_cons_succ]
      refine tkH 24 (v := ?_) rfl (by kernel_rfl) ⟨by rfl, ?_⟩ hS ?_
      rotate_left
      · intro w0 hs; obtain ⟨s0, s1, s4, s5⟩ := HC2.out _ hs; clear hs; go_simp; try (with_reducible rfl)
      try simp only [Act.put, List.setIfInBounds_toArray, List.set_cons_zero, List.set_cons_succ]
      as_aux_lemma =>
        refine tkH 25 (v := ?_) rfl (by kernel_rfl) ⟨by rfl, ?_⟩ hS ?_
        rotate_left
        · intro w0 hs; obtain ⟨s0, s1, s4, s5⟩ := HC2.out _ hs; clear hs; go_simp; try (with_reducible rfl)
        try simp only [Act.put, List.setIfInBounds_toArray, List.set_cons_zero, List.set_cons_succ]
        refine tkH 26 (v := ?_) rfl (by kernel_rfl) ⟨by rfl, ?_⟩ hS ?_
        rotate_left
        · intro w0 hs; obtain ⟨s0, s1, s4, s5⟩ := HC2.out _ hs; clear hs; go_simp; try (with_reducible rfl)
        try simp only [Act.put, List.setIfInBounds_toArray, List.set_cons_zero, List.set_cons_succ]
        refine tkH 27 (v := ?_) rfl (by kernel_rfl) ⟨by rfl, ?_⟩ hS ?_
        rotate_left
        · intro w0 hs; obtain ⟨s0, s1, s4, s5⟩ := HC2.out _ hs; clear hs; go_simp; try (with_reducible rfl)
        try simp only [Act.put, List.setIfInBounds_toArray, List.set_cons_zero, List.set_cons_succ]
        refine tkH 28 (v := ?_) rfl (by kernel_rfl) ⟨by rfl, ?_⟩ hS ?_
        rotate_left
        · intro w0 hs; obtain ⟨s0, s1, s4, s5⟩ := HC2.out _ hs; clear hs; go_simp; try (with_reducible rfl)
        try simp only [Act.put, List.setIfInBounds_toArray, List.set_cons_zero, List.set_cons_succ]
        refine tkH 30 (v := ?_) rfl (by kernel_rfl) ⟨by rfl, ?_⟩ hS ?_
        rotate_left
        · intro w0 hs; obtain ⟨s0, s1, s4, s5⟩ := HC2.out _ hs; clear hs; go_simp; try (with_reducible rfl)
        try simp only [Act.put, List.setIfInBounds_toArray, List.set_cons_zero, List.set_cons_succ]
        refine tkH 31 (v := ?_) rfl (by kernel_rfl) ⟨by rfl, ?_⟩ hS ?_
        rotate_left
        · intro w0 hs; obtain ⟨s0, s1, s4, s5⟩ := HC2.out _ hs; clear hs; go_simp; try (with_reducible rfl)
        try simp only [Act.put, List.setIfInBounds_toArray, List.set_cons_zero, List.set_cons_succ]
        refine tkH 32 (v := ?_) rfl (by kernel_rfl) ⟨by rfl, ?_⟩ hS ?_
        rotate_left
        · intro w0 hs; obtain ⟨s0, s1, s4, s5⟩ := HC2.out _ hs; clear hs; go_simp; try (with_reducible rfl)
        try simp only [Act.put, List.setIfInBounds_toArray, List.set_cons_zero, List.set_cons_succ]
        refine tkH 33 (v := ?_) rfl (by kernel_rfl) ⟨by rfl, ?_⟩ hS ?_
        rotate_left
        · intro w0 hs; obtain ⟨s0, s1, s4, s5⟩ := HC2.out _ hs; clear hs; go_simp; try (with_reducible rfl)
        try simp only [Act.put, List.setIfInBounds_toArray, List.set_cons_zero, List.set_cons_succ]
        refine tkH 34 (v := ?_) rfl (by kernel_rfl) ⟨by rfl, ?_⟩ hS ?_
        rotate_left
        · intro w0 hs; obtain ⟨s0, s1, s4, s5⟩ := HC2.out _ hs; clear hs; go_simp; try (with_reducible rfl)
        try simp only [Act.put, List.setIfInBounds_toArray, List.set_cons_zero, List.set_cons_succ]
        refine tkH 35 (v := ?_) rfl (by kernel_rfl) ⟨by rfl, ?_⟩ hS ?_
        rotate_left
        · intro w0 hs; obtain ⟨s0, s1, s4, s5⟩ := HC2.out _ hs; clear hs; go_simp; try (with_reducible rfl)
        try simp only [Act.put, List.setIfInBounds_toArray, List.set_cons_zero, List.set_cons_succ]
        refine tkH 36 (v := ?_) rfl (by kernel_rfl) ⟨by rfl, ?_⟩ hS ?_
        rotate_left
        · intro w0 hs; obtain ⟨s0, s1, s4, s5⟩ := HC2.out _ hs; clear hs; go_simp; try (with_reducible rfl)
        try simp only [Act.put, List.setIfInBounds_toArray, List.set_cons_zero, List.set_cons_succ]
        refine wpAnyH_ready (rs := [29]) (by kernel_rfl) (by simp) ?_
        refine AllReadyH.cons (o := ⟨_, _, _, _, _, _⟩) rfl (fun K hK => ?_) AllReadyH.nil
        rw [if_pos (by rfl)]
        go_step
        refine (PN.out _ hS).mono ?_
        rintro e v29 ⟨rfl, rfl⟩
        simp only []
        refine hK.out _ _ hS (fun hS' => ?_)
        clear hS hK
        have hS := hS'; clear hS'
        try simp only [Act.put, List.setIfInBounds_toArray, List.set_cons_zero, List.set_cons_succ]
        refine tkH 37 (v := ?_) rfl (by kernel_rfl) ⟨by rfl, ?_⟩ hS ?_
        rotate_left
        · intro w0 hs; obtain ⟨s0, s1, s4, s5⟩ := HC2.out _ hs; clear hs; go_simp; try (with_reducible rfl)
        try simp only [Act.put, List.setIfInBounds_toArray, List.set_cons_zero, List.set_cons_succ]
        refine tkH 38 (v := ?_) rfl (by kernel_rfl) ⟨by rfl, ?_⟩ hS ?_
        rotate_left
        · intro w0 hs; obtain ⟨s0, s1, s4, s5⟩ := HC2.out _ hs; clear hs; go_simp; try (with_reducible rfl)
        try simp only [Act.put, List.setIfInBounds_toArray, List.set_cons_zero, List.set_cons_succ]
        refine tkH 39 (v := ?_) rfl (by kernel_rfl) ⟨by rfl, ?_⟩ hS ?_
        rotate_left
        · intro w0 hs; obtain ⟨s0, s1, s4, s5⟩ := HC2.out _ hs; clear hs; go_simp; try (with_reducible rfl)
        try simp only [Act.put, List.setIfInBounds_toArray, List.set_cons_zero, List.set_cons_succ]
        refine tkH 40 (v := ?_) rfl (by kernel_rfl) ⟨by rfl, ?_⟩ hS ?_
        rotate_left
        · intro w0 hs; obtain ⟨s0, s1, s4, s5⟩ := HC2.out _ hs; clear hs; go_simp; try (with_reducible rfl)
        try simp only [Act.put, List.setIfInBounds_toArray, List.set_cons_zero, List.set_cons_succ]
        refine tkH 41 (v := ?_) rfl (by kernel_rfl) ⟨by rfl, ?_⟩ hS ?_
        rotate_left
        · intro w0 hs; obtain ⟨s0, s1, s4, s5⟩ := HC2.out _ hs; clear hs; go_simp; try (with_reducible rfl)
        try simp only [Act.put, List.setIfInBounds_toArray, List.set_cons_zero, List.set_cons_succ]
        refine tkH 42 (v := ?_) rfl (by kernel_rfl) ⟨by rfl, ?_⟩ hS ?_
        rotate_left
        · intro w0 hs; obtain ⟨s0, s1, s4, s5⟩ := HC2.out _ hs; clear hs; go_simp; try (with_reducible rfl)
        try simp only [Act.put, List.setIfInBounds_toArray, List.set_cons_zero, List.set_cons_succ]
        refine tkH 43 (v := ?_) rfl (by kernel_rfl) ⟨by rfl, ?_⟩ hS ?_
        rotate_left
        · intro w0 hs; obtain ⟨s0, s1, s4, s5⟩ := HC2.out _ hs; clear hs; go_simp; try (with_reducible rfl)
        try simp only [Act.put, List.setIfInBounds_toArray, List.set_cons_zero, List.set_cons_succ]
        refine tkH 45 (v := ?_) rfl (by kernel_rfl) ⟨by rfl, ?_⟩ hS ?_
        rotate_left
        · intro w0 hs; obtain ⟨s0, s1, s4, s5⟩ := HC2.out _ hs; clear hs; go_simp; try (with_reducible rfl)
        try simp only [Act.put, List.setIfInBounds_toArray, List.set_cons_zero, List.set_cons_succ]
        refine tkH 46 (v := ?_) rfl (by kernel_rfl) ⟨by rfl, ?_⟩ hS ?_
        rotate_left
        · intro w0 hs; obtain ⟨s0, s1, s4, s5⟩ := HC2.out _ hs; clear hs; go_simp; try (with_reducible rfl)
        try simp only [Act.put, List.setIfInBounds_toArray, List.set_cons_zero, List.set_cons_succ]
        refine tkH 47 (v := ?_) rfl (by kernel_rfl) ⟨by rfl, ?_⟩ hS ?_
        rotate_left
        · intro w0 hs; obtain ⟨s0, s1, s4, s5⟩ := HC2.out _ hs; clear hs; go_simp; try (with_reducible rfl)
        try simp only [Act.put, List.setIfInBounds_toArray, List.set_cons_zero, List.set_cons_succ]
        refine tkH 48 (v := ?_) rfl (by kernel_rfl) ⟨by rfl, ?_⟩ hS ?_
        rotate_left
        · intro w0 hs; obtain ⟨s0, s1, s4, s5⟩ := HC2.out _ hs; clear hs; go_simp; try (with_reducible rfl)
        try simp only [Act.put, List.setIfInBounds_toArray, List.set_cons_zero, List.set_cons_succ]
        refine tkH 49 (v := ?_) rfl (by kernel_rfl) ⟨by rfl, ?_⟩ hS ?_
        rotate_left
        · intro w0 hs; obtain ⟨s0, s1, s4, s5⟩ := HC2.out _ hs; clear hs; go_simp; try (with_reducible rfl)
        try simp only [Act.put, List.setIfInBounds_toArray, List.set_cons_zero, List.set_cons_succ]
        refine tkH 50 (v := ?_) rfl (by kernel_rfl) ⟨by rfl, ?_⟩ hS ?_
        rotate_left
        · intro w0 hs; obtain ⟨s0, s1, s4, s5⟩ := HC2.out _ hs; clear hs; go_simp; try (with_reducible rfl)
        try simp only [Act.put, List.setIfInBounds_toArray, List.set_cons_zero, List.set_cons_succ]
        as_aux_lemma =>
          refine tkH 51 (v := ?_) rfl (by kernel_rfl) ⟨by rfl, ?_⟩ hS ?_
          rotate_left
          · intro w0 hs; obtain ⟨s0, s1, s4, s5⟩ := HC2.out _ hs; clear hs; go_simp; try (with_reducible rfl)
          try simp only [Act.put, List.setIfInBounds_toArray, List.set_cons_zero, List.set_cons_succ]
          refine wpAnyH_ready (rs := [44]) (by kernel_rfl) (by simp) ?_
          refine AllReadyH.cons (o := ⟨_, _, _, _, _, _⟩) rfl (fun K hK => ?_) AllReadyH.nil
          rw [if_pos (by rfl)]
          go_step
          refine (PD.out _ hS).mono ?_
          rintro e v44 ⟨rfl, rfl⟩
          simp only []
          refine hK.out _ _ hS (fun hS' => ?_)
          clear hS hK
          have hS := hS'; clear hS'
          try simp only [Act.put, List.setIfInBounds_toArray, List.set_cons_zero, List.set_cons_succ]
          refine tkH 52 (v := ?_) rfl (by kernel_rfl) ⟨by rfl, ?_⟩ hS ?_
          rotate_left
          · intro w0 hs; obtain ⟨s0, s1, s4, s5⟩ := HC2.out _ hs; clear hs; go_simp; try (with_reducible rfl)
          try simp only [Act.put, List.setIfInBounds_toArray, List.set_cons_zero, List.set_cons_succ]
          refine tkH 53 (v := ?_) rfl (by kernel_rfl) ⟨by rfl, ?_⟩ hS ?_
          rotate_left
          · intro w0 hs; obtain ⟨s0, s1, s4, s5⟩ := HC2.out _ hs; clear hs; go_simp; try (with_reducible rfl)
          try simp only [Act.put, List.setIfInBounds_toArray, List.set_cons_zero, List.set_cons_succ]
          refine tkH 54 (v := ?_) rfl (by kernel_rfl) ⟨by rfl, ?_⟩ hS ?_
          rotate_left
          · intro w0 hs; obtain ⟨s0, s1, s4, s5⟩ := HC2.out _ hs; clear hs; go_simp; try (with_reducible rfl)
          try simp only [Act.put, List.setIfInBounds_toArray, List.set_cons_zero, List.set_cons_succ]
          refine wpAnyH_done (by kernel_rfl) ?_ _
          have HF := Lib.hid hS
          clear hS
          go_wp2
          go_ret
          exact ⟨by simp, HF.out⟩
end Go.Proofs.YtbjbjgfjaopibaaGreatDoor
end
