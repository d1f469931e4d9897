import Derived.Test.YtbjbjgfjaopibaaGreatDoorLv29
section
/- The law's pair: does, the calls that open anew. -/
namespace Go.Proofs.YtbjbjgfjaopibaaGreatDoor
open Go Go.RowKit
set_option linter.unusedSimpArgs false
set_option linter.unusedVariables false
set_option maxRecDepth 100000

theorem OpPost.lv {W w w' : World} {P p y : Nat} {o oy : Option Nat} {xs : List Int} {sy ro fu : Int} {e : Ending} (h : OpPost W P p y o oy xs sy ro fu w e w') : LV W P p y w' := by
  rcases h.2.2 with ⟨_, oy', h⟩ | ⟨j, b, x, oy', L, h⟩
  · exact .inl ⟨_, _, _, _, _, _, h⟩
  · exact .inr ⟨_, _, _, _, _, _, _, h⟩
theorem LV.cells {W w : World} {P p y : Nat} (h : LV W P p y w) : w.cell? ⟨P, 2, none⟩ = some (.pointer (some ⟨p, 0, none⟩)) ∧ w.cell? ⟨P, 3, none⟩ = some (.pointer (some ⟨y, 0, none⟩)) := by
  rcases h with ⟨_, _, _, _, _, _, h⟩ | ⟨_, _, _, _, _, _, _, h⟩
  · exact ⟨h.pb.cell 2, h.pb.cell 3⟩
  · exact ⟨h.pb.cell 2, h.pb.cell 3⟩
section
variable {W w w1 w2 : World} {P p y : Nat} {o oy o1 oy1 : Option Nat} {jv xv : Value} {xs xs' : List Int} {sy ro fu sy' ro' fu' : Int}
theorem TwoT.nP (h : TwoT W w P p o y oy jv xv xs sy ro fu) : ¬ foot p o P ∧ ¬ foot y oy P := ⟨fun hf => (h.pt.ft P hf).1.2 (.inr rfl), fun hf => (h.dt.ft P hf).1.2 (.inr rfl)⟩
/-- the document's tape has gone on -/
theorem TwoT.afterD (h : TwoT W w P p o y oy jv xv xs sy ro fu) (hD : HT RefAt W w1 (fun k => foot p o k ∨ k = P) y oy1 xs' sy' ro' fu') (k1 : Keep (foot y oy) w w1) (ho : oy1 = oy ∨ ∃ g, oy1 = some g ∧ w.heap.size ≤ g) :
    HT TapeAt W w1 (fun k => foot y oy1 k ∨ k = P) p o xs sy ro fu ∧ Blk w1 P #[jv, xv, .pointer (some ⟨p, 0, none⟩), .pointer (some ⟨y, 0, none⟩)] 36 :=
  ⟨h.pt.step tkp k1 (fun k hk => ⟨.inl hk, (h.dt.ft k hk).1.1⟩) (fun k hk => by
    rcases hk with hk | rfl
    · exact ⟨(foot_new ho hk).imp .inl id, (hD.ft k hk).2⟩
    · exact ⟨.inl (.inr rfl), Nat.lt_of_lt_of_le h.pb.lt k1.size⟩), k1.blk h.pb h.nP.2⟩
/-- the program's tape has gone on -/
theorem TwoT.afterP (h : TwoT W w P p o y oy jv xv xs sy ro fu) (hP : HT TapeAt W w1 (fun k => foot y oy k ∨ k = P) p o1 xs' sy' ro' fu') (k1 : Keep (foot p o) w w1) (ho : o1 = o ∨ ∃ g, o1 = some g ∧ w.heap.size ≤ g) :
    HT RefAt W w1 (fun k => foot p o1 k ∨ k = P) y oy xs sy ro fu ∧ Blk w1 P #[jv, xv, .pointer (some ⟨p, 0, none⟩), .pointer (some ⟨y, 0, none⟩)] 36 :=
  ⟨h.dt.step tkd k1 (fun k hk => ⟨.inl hk, (h.pt.ft k hk).1.1⟩) (fun k hk => by
    rcases hk with hk | rfl
    · exact ⟨(foot_new ho hk).imp .inl id, (hP.ft k hk).2⟩
    · exact ⟨.inl (.inr rfl), Nat.lt_of_lt_of_le h.pb.lt k1.size⟩), k1.blk h.pb h.nP.1⟩
/-- then the program's -/
theorem HT.join (hp1 : HT TapeAt W w1 (fun k => foot y oy1 k ∨ k = P) p o xs sy ro fu) (hD : HT RefAt W w1 (fun k => foot p o k ∨ k = P) y oy1 xs' sy' ro' fu') (pb : Blk w1 P #[jv, xv, .pointer (some ⟨p, 0, none⟩), .pointer (some ⟨y, 0, none⟩)] 36) (hWP : W.heap.size ≤ P)
    (k2 : Keep (foot p o) w1 w2) (ho : o1 = o ∨ ∃ g, o1 = some g ∧ w1.heap.size ≤ g) (hP : HT TapeAt W w2 (fun k => foot y oy1 k ∨ k = P) p o1 xs' sy' ro' fu') : TwoT W w2 P p o1 y oy1 jv xv xs' sy' ro' fu' :=
  ⟨hP, hD.step tkd k2 (fun k hk => ⟨.inl hk, (hp1.ft k hk).1.1⟩) (fun k hk => by
    rcases hk with hk | rfl
    · exact ⟨(foot_new ho hk).imp .inl id, (hP.ft k hk).2⟩
    · exact ⟨.inl (.inr rfl), Nat.lt_of_lt_of_le pb.lt k2.size⟩), k2.blk pb (fun hf => (hp1.ft P hf).1.2 (.inr rfl)), hWP⟩
/-- then the document's -/
theorem HT.join' (hD1 : HT RefAt W w1 (fun k => foot p o1 k ∨ k = P) y oy xs sy ro fu) (hP : HT TapeAt W w1 (fun k => foot y oy k ∨ k = P) p o1 xs' sy' ro' fu') (pb : Blk w1 P #[jv, xv, .pointer (some ⟨p, 0, none⟩), .pointer (some ⟨y, 0, none⟩)] 36) (hWP : W.heap.size ≤ P)
    (k2 : Keep (foot y oy) w1 w2) (ho : oy1 = oy ∨ ∃ g, oy1 = some g ∧ w1.heap.size ≤ g) (hD : HT RefAt W w2 (fun k => foot p o1 k ∨ k = P) y oy1 xs' sy' ro' fu') : TwoT W w2 P p o1 y oy1 jv xv xs' sy' ro' fu' :=
  ⟨hP.step tkp k2 (fun k hk => ⟨.inl hk, (hD1.ft k hk).1.1⟩) (fun k hk => by
    rcases hk with hk | rfl
    · exact ⟨(foot_new ho hk).imp .inl id, (hD.ft k hk).2⟩
    · exact ⟨.inl (.inr rfl), Nat.lt_of_lt_of_le pb.lt k2.size⟩), hD, k2.blk pb (fun hf => (hD1.ft P hf).1.2 (.inr rfl)), hWP⟩
end
set_option maxHeartbeats 6400000 in
theorem pdoes_open {W w : World} {P p j b y x : Nat} {o oy : Option Nat} {s : JS} {L : List PairD} (hW : Glob W) (h : J2 W w P p o j b y oy x s L) (op n : Int) (pa da ba : Option Addr) (pn pc dn dc bn bc : Nat) (e1 : wrap64 ((IntKind.u64.wrap op).tmod 10) = 8) :
    Calls Tryz.prog 7 #[.pointer (some ⟨P, 0, none⟩), .agg #[.int .i64 op, .int .i64 n, .slice pa pn pc, .slice da dn dc, .slice ba bn bc]] w fun e w' => e = .returned (.bool true) ∧ LV W P p y w' := by
  have k0 : Below w.heap.size w (w.alloc (.cells #[.int .i64 op, .int .i64 n, .slice pa pn pc, .slice da dn dc, .slice ba bn bc] 43)) := (Below.refl w.heap.size w).alloc (Nat.le_refl _) _
  have b0 := Blk.new w #[.int .i64 op, .int .i64 n, .slice pa pn pc, .slice da dn dc, .slice ba bn bc] 43
  have h0 := h.more k0
  have hgl : ∀ k, fp p o j b k ∨ fd y oy x k → k < w.heap.size := fun k hk => hk.elim (fun h1 => (h.ph.lt k h1).2) (fun h1 => (h.dh.lt k h1).2)
  have hPw : P < w.heap.size := h.pb.lt
  go_enter Tryz.func7, Tryz.ntmps7
  go_upto_region 1 with fail
  obtain ⟨w0, hw0⟩ : ∃ w0, w0 = w.alloc (.cells #[.int .i64 op, .int .i64 n, .slice pa pn pc, .slice da dn dc, .slice ba bn bc] 43) := ⟨_, rfl⟩
  rw [← hw0] at k0 b0 h0 ⊢
  clear hw0
  obtain ⟨g, hg⟩ : ∃ g, g = w.heap.size := ⟨_, rfl⟩
  rw [← hg] at b0 ⊢
  have cb0 := b0.cell 0
  have HG := Lib.hid (And.intro k0 (And.intro b0 (And.intro h0 (And.intro hgl (And.intro hPw hg)))))
  clear k0 b0 h0 hgl hPw hg
  go_upto_region 3 with fail
  rw [e1]
  clear e1 cb0
  have PO := Lib.hid (popen hW HG.out.2.2.1.t2)
  go_wp2_with fail
  refine PO.out.mono ?_
  rintro e w1 hp
  obtain rfl := hp.1
  have HF := Lib.hid hp.lv
  clear hp
  go_wp2
  go_ret
  exact ⟨rfl, HF.out⟩
set_option maxHeartbeats 6400000 in
theorem pdoes_crash {W w : World} {P p j b y x : Nat} {o oy : Option Nat} {s : JS} {L : List PairD} (hW : Glob W) (h : J2 W w P p o j b y oy x s L) (op n : Int) (pa da ba : Option Addr) (pn pc dn dc bn bc : Nat) (e1 : wrap64 ((IntKind.u64.wrap op).tmod 10) = 7) :
    Calls Tryz.prog 7 #[.pointer (some ⟨P, 0, none⟩), .agg #[.int .i64 op, .int .i64 n, .slice pa pn pc, .slice da dn dc, .slice ba bn bc]] w fun e w' => e = .returned (.bool true) ∧ LV W P p y w' := by
  have k0 : Below w.heap.size w (w.alloc (.cells #[.int .i64 op, .int .i64 n, .slice pa pn pc, .slice da dn dc, .slice ba bn bc] 43)) := (Below.refl w.heap.size w).alloc (Nat.le_refl _) _
  have b0 := Blk.new w #[.int .i64 op, .int .i64 n, .slice pa pn pc, .slice da dn dc, .slice ba bn bc] 43
  have h0 := h.more k0
  have hgl : ∀ k, fp p o j b k ∨ fd y oy x k → k < w.heap.size := fun k hk => hk.elim (fun h1 => (h.ph.lt k h1).2) (fun h1 => (h.dh.lt k h1).2)
  have hPw : P < w.heap.size := h.pb.lt
  go_enter Tryz.func7, Tryz.ntmps7
  go_upto_region 1 with fail
  obtain ⟨w0, hw0⟩ : ∃ w0, w0 = w.alloc (.cells #[.int .i64 op, .int .i64 n, .slice pa pn pc, .slice da dn dc, .slice ba bn bc] 43) := ⟨_, rfl⟩
  rw [← hw0] at k0 b0 h0 ⊢
  clear hw0
  obtain ⟨g, hg⟩ : ∃ g, g = w.heap.size := ⟨_, rfl⟩
  rw [← hg] at b0 ⊢
  have cb0 := b0.cell 0
  have HG := Lib.hid (And.intro k0 (And.intro b0 (And.intro h0 (And.intro hgl (And.intro hPw hg)))))
  clear k0 b0 h0 hgl hPw hg
  go_upto_region 3 with fail
  rw [e1]
  clear e1 cb0
  have ht : TwoT W w0.drew P p o y oy _ _ s.xs s.sy s.ro s.fu := (HG.out.2.2.1.more (Below.refl _ _).drew).t2
  have hgl : ∀ k, fp p o j b k ∨ fd y oy x k → k < g := fun k hk => by rw [HG.out.2.2.2.2.2]; exact HG.out.2.2.2.1 k hk
  have hnP := HG.out.2.2.1.nP
  have hgd : w0.drew.heap.size = w0.heap.size := rfl
  have hg0 : g < w0.heap.size := HG.out.2.1.lt
  have hPg : P < g := by rw [HG.out.2.2.2.2.2]; exact HG.out.2.2.2.2.1
  have hS0 : SD P g 1 (.pointer (some ⟨p, 0, none⟩)) (.pointer (some ⟨y, 0, none⟩)) (.int .i64 n) w0.drew := ⟨ht.pb.cell 2, ht.pb.cell 3, HG.out.2.1.cell 1⟩
  have PF := Lib.hid (dt_crash n ht.dt)
  have HD := Lib.hid ht
  clear ht
  go_upto_region 21 with fail
  refine wp_region_held_drew (S := SD P g 1 (.pointer (some ⟨p, 0, none⟩)) (.pointer (some ⟨y, 0, none⟩)) (.int .i64 n)) (by kernel_rfl) hS0 (fun hS => ?_)
  refine tkH 0 (v := ?_) rfl (by kernel_rfl) ⟨by rfl, ?_⟩ hS ?_
  rotate_left
  · intro w0 hs; obtain ⟨s1, s2, s3⟩ := hs; go_simp; try (with_reducible rfl)
  try simp only [Act.put, List.setIfInBounds_toArray, List.set_cons_zero, List.set_cons_succ]
  refine tkH 1 (v := ?_) rfl (by kernel_rfl) ⟨by rfl, ?_⟩ hS ?_
  rotate_left
  · intro w0 hs; obtain ⟨s1, s2, s3⟩ := hs; go_simp; try (with_reducible rfl)
  try simp only [Act.put, List.setIfInBounds_toArray, List.set_cons_zero, List.set_cons_succ]
  refine tkH 2 (v := ?_) rfl (by kernel_rfl) ⟨by rfl, ?_⟩ hS ?_
  rotate_left
  · intro w0 hs; obtain ⟨s1, s2, s3⟩ := hs; go_simp; try (with_reducible rfl)
  try simp only [Act.put, List.setIfInBounds_toArray, List.set_cons_zero, List.set_cons_succ]
  refine tkH 3 (v := ?_) rfl (by kernel_rfl) ⟨by rfl, ?_⟩ hS ?_
  rotate_left
  · intro w0 hs; obtain ⟨s1, s2, s3⟩ := hs; go_simp; try (with_reducible rfl)
  try simp only [Act.put, List.setIfInBounds_toArray, List.set_cons_zero, List.set_cons_succ]
  refine tkH 4 (v := ?_) rfl (by kernel_rfl) ⟨by rfl, ?_⟩ hS ?_
  rotate_left
  · intro w0 hs; obtain ⟨s1, s2, s3⟩ := hs; go_simp; try (with_reducible rfl)
  try simp only [Act.put, List.setIfInBounds_toArray, List.set_cons_zero, List.set_cons_succ]
  refine tkH 5 (v := ?_) rfl (by kernel_rfl) ⟨by rfl, ?_⟩ hS ?_
  rotate_left
  · intro w0 hs; obtain ⟨s1, s2, s3⟩ := hs; go_simp; try (with_reducible rfl)
  try simp only [Act.put, List.setIfInBounds_toArray, List.set_cons_zero, List.set_cons_succ]
  refine wpAnyH_ready (rs := [6]) (by kernel_rfl) (by simp) ?_
  refine AllReadyH.cons (o := ⟨_, _, _, _, _, _⟩) rfl (fun K hK => ?_) AllReadyH.nil
  rw [if_pos (by rfl)]
  go_step
  refine PF.out.mono ?_
  rintro e w1 ⟨oy1, rfl, D1, k1, hoy1⟩
  simp only []
  refine hK.out _ _ (SD.keep hS k1 (fun h => hnP.2 (.inl h)) (fun h => by have := hgl _ (.inr (.inl h)); omega)) (fun hS' => ?_)
  clear hS hK
  have hS := hS'; clear hS'
  try simp only [Act.put, List.setIfInBounds_toArray, List.set_cons_zero, List.set_cons_succ]
  refine wpAnyH_done (by kernel_rfl) ?_ _
  obtain ⟨P1, pb1⟩ := HD.out.afterD D1 k1 hoy1
  have kd : Keep (fun _ => False) w1 w1.drew := (Keep.refl _ w1).drew
  have P1d := P1.step tkp kd (fun _ h => h.elim) (fun k hk => ⟨.inl hk, P1.fl k hk⟩)
  have D1d := D1.step tkd kd (fun _ h => h.elim) (fun k hk => ⟨.inl hk, D1.fl k hk⟩)
  have hS1 : SD P g 1 (.pointer (some ⟨p, 0, none⟩)) (.pointer (some ⟨y, 0, none⟩)) (.int .i64 n) w1.drew := hS.keep kd (fun h => h) (fun h => h)
  have hgw1 : w0.heap.size ≤ w1.drew.heap.size := k1.size
  have hgy1 : ¬ foot y oy1 g := fun h => by
    rcases foot_new hoy1 h with h2 | h2
    · have := hgl _ (.inr (.inl h2)); omega
    · omega
  have PC := Lib.hid (pt_crash n P1d)
  have H1 := Lib.hid (And.intro P1d (And.intro D1d (show Blk w1.drew P _ _ from pb1)))
  clear P1 P1d D1 D1d pb1 kd k1 hoy1 hS hS0
  go_upto_region 22 with fail
  refine wp_region_held_drew (S := SD P g 1 (.pointer (some ⟨p, 0, none⟩)) (.pointer (some ⟨y, 0, none⟩)) (.int .i64 n)) (by kernel_rfl) hS1 (fun hS => ?_)
  refine tkH 0 (v := ?_) rfl (by kernel_rfl) ⟨by rfl, ?_⟩ hS ?_
  rotate_left
  · intro w0 hs; obtain ⟨s1, s2, s3⟩ := hs; go_simp; try (with_reducible rfl)
  try simp only [Act.put, List.setIfInBounds_toArray, List.set_cons_zero, List.set_cons_succ]
  refine tkH 1 (v := ?_) rfl (by kernel_rfl) ⟨by rfl, ?_⟩ hS ?_
  rotate_left
  · intro w0 hs; obtain ⟨s1, s2, s3⟩ := hs; go_simp; try (with_reducible rfl)
  try simp only [Act.put, List.setIfInBounds_toArray, List.set_cons_zero, List.set_cons_succ]
  refine tkH 2 (v := ?_) rfl (by kernel_rfl) ⟨by rfl, ?_⟩ hS ?_
  rotate_left
  · intro w0 hs; obtain ⟨s1, s2, s3⟩ := hs; go_simp; try (with_reducible rfl)
  try simp only [Act.put, List.setIfInBounds_toArray, List.set_cons_zero, List.set_cons_succ]
  refine tkH 3 (v := ?_) rfl (by kernel_rfl) ⟨by rfl, ?_⟩ hS ?_
  rotate_left
  · intro w0 hs; obtain ⟨s1, s2, s3⟩ := hs; go_simp; try (with_reducible rfl)
  try simp only [Act.put, List.setIfInBounds_toArray, List.set_cons_zero, List.set_cons_succ]
  refine tkH 4 (v := ?_) rfl (by kernel_rfl) ⟨by rfl, ?_⟩ hS ?_
  rotate_left
  · intro w0 hs; obtain ⟨s1, s2, s3⟩ := hs; go_simp; try (with_reducible rfl)
  try simp only [Act.put, List.setIfInBounds_toArray, List.set_cons_zero, List.set_cons_succ]
  refine tkH 5 (v := ?_) rfl (by kernel_rfl) ⟨by rfl, ?_⟩ hS ?_
  rotate_left
  · intro w0 hs; obtain ⟨s1, s2, s3⟩ := hs; go_simp; try (with_reducible rfl)
  try simp only [Act.put, List.setIfInBounds_toArray, List.set_cons_zero, List.set_cons_succ]
  refine wpAnyH_ready (rs := [6]) (by kernel_rfl) (by simp) ?_
  refine AllReadyH.cons (o := ⟨_, _, _, _, _, _⟩) rfl (fun K hK => ?_) AllReadyH.nil
  rw [if_pos (by rfl)]
  go_step
  refine PC.out.mono ?_
  rintro e w2 ⟨o1, rfl, P2, k2, ho1⟩
  simp only []
  refine hK.out _ _ (SD.keep hS k2 (fun h => hnP.1 (.inl h)) (fun h => by have := hgl _ (.inl (.inl h)); omega)) (fun hS' => ?_)
  clear hS hK
  have hS := hS'; clear hS'
  try simp only [Act.put, List.setIfInBounds_toArray, List.set_cons_zero, List.set_cons_succ]
  refine tkH 7 (v := ?_) rfl (by kernel_rfl) ⟨by rfl, ?_⟩ hS ?_
  rotate_left
  · intro w0 hs; obtain ⟨s1, s2, s3⟩ := hs; go_simp; try (with_reducible rfl)
  try simp only [Act.put, List.setIfInBounds_toArray, List.set_cons_zero, List.set_cons_succ]
  refine tkH 8 (v := ?_) rfl (by kernel_rfl) ⟨by rfl, ?_⟩ hS ?_
  rotate_left
  · intro w0 hs; obtain ⟨s1, s2, s3⟩ := hs; go_simp; try (with_reducible rfl)
  try simp only [Act.put, List.setIfInBounds_toArray, List.set_cons_zero, List.set_cons_succ]
  refine tkH 9 (v := ?_) rfl (by kernel_rfl) ⟨by rfl, ?_⟩ hS ?_
  rotate_left
  · intro w0 hs; obtain ⟨s1, s2, s3⟩ := hs; go_simp; try (with_reducible rfl)
  try simp only [Act.put, List.setIfInBounds_toArray, List.set_cons_zero, List.set_cons_succ]
  refine wpAnyH_ready (rs := [10]) (by kernel_rfl) (by simp) ?_
  refine AllReadyH.cons (o := ⟨_, _, _, _, _, _⟩) rfl (fun K hK => ?_) AllReadyH.nil
  rw [if_pos (by rfl)]
  go_step
  have T2 := HT.join H1.out.1 H1.out.2.1 H1.out.2.2 HD.out.hP k2 ho1 P2
  have hgp1 : ¬ foot p o1 g := fun h => by
    rcases foot_new ho1 h with h2 | h2
    · have := hgl _ (.inl (.inl h2)); omega
    · omega
  refine (popen hW T2).mono ?_
  rintro e w3 hp
  obtain rfl := hp.1
  have hlv := hp.lv
  have k3 := hp.2.1
  simp only []
  refine hK.out _ _ ⟨hlv.cells.1, hlv.cells.2, (k3.cell (p := ⟨g, 1, none⟩) (cell_lt hS.2.2) (fun h => h.elim hgp1 (fun h => h.elim hgy1 (fun h => by have e : g = P := h; omega)))).trans hS.2.2⟩ (fun hS' => ?_)
  clear hS hK
  have hS := hS'; clear hS'
  try simp only [Act.put, List.setIfInBounds_toArray, List.set_cons_zero, List.set_cons_succ]
  refine tkH 11 (v := ?_) rfl (by kernel_rfl) ⟨by rfl, ?_⟩ hS ?_
  rotate_left
  · intro w0 hs; obtain ⟨s1, s2, s3⟩ := hs; go_simp; try (with_reducible rfl)
  try simp only [Act.put, List.setIfInBounds_toArray, List.set_cons_zero, List.set_cons_succ]
  refine tkH 12 (v := ?_) rfl (by kernel_rfl) ⟨by rfl, ?_⟩ hS ?_
  rotate_left
  · intro w0 hs; obtain ⟨s1, s2, s3⟩ := hs; go_simp; try (with_reducible rfl)
  try simp only [Act.put, List.setIfInBounds_toArray, List.set_cons_zero, List.set_cons_succ]
  refine wpAnyH_done (by kernel_rfl) ?_ _
  have HF := Lib.hid hlv
  clear hlv hp k3 T2 P2 k2 ho1 hS
  go_wp2
  go_ret
  exact ⟨rfl, HF.out⟩
set_option maxHeartbeats 6400000 in
theorem pdoes_append {W w : World} {P p j b y x : Nat} {o oy : Option Nat} {s : JS} {L : List PairD} (hW : Glob W) (h : J2 W w P p o j b y oy x s L) (op n : Int) (pa da ba : Option Addr) (pn pc dn dc bn bc : Nat) (e1 : wrap64 ((IntKind.u64.wrap op).tmod 10) = 9) (ys : List Int) (hbn : ys.length = bn) (hys : Lib.BytesIn W ba ys.length ys) (hyb : Byt ys) (hyl : ys.length ≤ 9223372036854775807) :
    Calls Tryz.prog 7 #[.pointer (some ⟨P, 0, none⟩), .agg #[.int .i64 op, .int .i64 n, .slice pa pn pc, .slice da dn dc, .slice ba bn bc]] w fun e w' => e = .returned (.bool true) ∧ LV W P p y w' := by
  have k0 : Below w.heap.size w (w.alloc (.cells #[.int .i64 op, .int .i64 n, .slice pa pn pc, .slice da dn dc, .slice ba bn bc] 43)) := (Below.refl w.heap.size w).alloc (Nat.le_refl _) _
  have b0 := Blk.new w #[.int .i64 op, .int .i64 n, .slice pa pn pc, .slice da dn dc, .slice ba bn bc] 43
  have h0 := h.more k0
  have hgl : ∀ k, fp p o j b k ∨ fd y oy x k → k < w.heap.size := fun k hk => hk.elim (fun h1 => (h.ph.lt k h1).2) (fun h1 => (h.dh.lt k h1).2)
  have hPw : P < w.heap.size := h.pb.lt
  go_enter Tryz.func7, Tryz.ntmps7
  go_upto_region 1 with fail
  obtain ⟨w0, hw0⟩ : ∃ w0, w0 = w.alloc (.cells #[.int .i64 op, .int .i64 n, .slice pa pn pc, .slice da dn dc, .slice ba bn bc] 43) := ⟨_, rfl⟩
  rw [← hw0] at k0 b0 h0 ⊢
  clear hw0
  obtain ⟨g, hg⟩ : ∃ g, g = w.heap.size := ⟨_, rfl⟩
  rw [← hg] at b0 ⊢
  have cb0 := b0.cell 0
  have HG := Lib.hid (And.intro k0 (And.intro b0 (And.intro h0 (And.intro hgl (And.intro hPw hg)))))
  clear k0 b0 h0 hgl hPw hg
  go_upto_region 3 with fail
  rw [e1]
  clear e1 cb0
  have ht : TwoT W w0.drew P p o y oy _ _ s.xs s.sy s.ro s.fu := (HG.out.2.2.1.more (Below.refl _ _).drew).t2
  have hgl : ∀ k, fp p o j b k ∨ fd y oy x k → k < g := fun k hk => by rw [HG.out.2.2.2.2.2]; exact HG.out.2.2.2.1 k hk
  have hnP := HG.out.2.2.1.nP
  have hgd : w0.drew.heap.size = w0.heap.size := rfl
  have hg0 : g < w0.heap.size := HG.out.2.1.lt
  have hPg : P < g := by rw [HG.out.2.2.2.2.2]; exact HG.out.2.2.2.2.1
  have hlW : 0 < ys.length → ∀ a, ba = some a → a.block < W.heap.size := fun h0 a ha => bytes_lt hys h0 a ha
  have hY0 : Lib.BytesIn w0.drew ba ys.length ys := bytes_keep hys (Keep.of_below (X := fun _ => False) ht.pt.bel) (fun _ _ _ h => h)
  have hS0 : SD P g 4 (.pointer (some ⟨p, 0, none⟩)) (.pointer (some ⟨y, 0, none⟩)) (.slice ba bn bc) w0.drew := ⟨ht.pb.cell 2, ht.pb.cell 3, HG.out.2.1.cell 4⟩
  have PF := pt_append (ys := ys) ba bc ht.pt hY0 (fun h0 a ha hf => by have := hlW h0 a ha; have := (ht.pt.ft _ hf).1.1; omega) hyb hyl
  rw [hbn] at PF
  have PF := Lib.hid PF
  have HD := Lib.hid ht
  have HY := Lib.hid (And.intro hys (And.intro hyb (And.intro hyl hlW)))
  clear ht hys hyb hyl hlW hY0
  go_upto_region 2 with fail
  refine wp_region_held_drew (S := SD P g 4 (.pointer (some ⟨p, 0, none⟩)) (.pointer (some ⟨y, 0, none⟩)) (.slice ba bn bc)) (by kernel_rfl) hS0 (fun hS => ?_)
  refine tkH 0 (v := ?_) rfl (by kernel_rfl) ⟨by rfl, ?_⟩ hS ?_
  rotate_left
  · intro w0 hs; obtain ⟨s1, s2, s3⟩ := hs; go_simp; try (with_reducible rfl)
  try simp only [Act.put, List.setIfInBounds_toArray, List.set_cons_zero, List.set_cons_succ]
  refine tkH 1 (v := ?_) rfl (by kernel_rfl) ⟨by rfl, ?_⟩ hS ?_
  rotate_left
  · intro w0 hs; obtain ⟨s1, s2, s3⟩ := hs; go_simp; try (with_reducible rfl)
  try simp only [Act.put, List.setIfInBounds_toArray, List.set_cons_zero, List.set_cons_succ]
  refine tkH 2 (v := ?_) rfl (by kernel_rfl) ⟨by rfl, ?_⟩ hS ?_
  rotate_left
  · intro w0 hs; obtain ⟨s1, s2, s3⟩ := hs; go_simp; try (with_reducible rfl)
  try simp only [Act.put, List.setIfInBounds_toArray, List.set_cons_zero, List.set_cons_succ]
  refine tkH 3 (v := ?_) rfl (by kernel_rfl) ⟨by rfl, ?_⟩ hS ?_
  rotate_left
  · intro w0 hs; obtain ⟨s1, s2, s3⟩ := hs; go_simp; try (with_reducible rfl)
  try simp only [Act.put, List.setIfInBounds_toArray, List.set_cons_zero, List.set_cons_succ]
  refine tkH 4 (v := ?_) rfl (by kernel_rfl) ⟨by rfl, ?_⟩ hS ?_
  rotate_left
  · intro w0 hs; obtain ⟨s1, s2, s3⟩ := hs; go_simp; try (with_reducible rfl)
  try simp only [Act.put, List.setIfInBounds_toArray, List.set_cons_zero, List.set_cons_succ]
  refine tkH 5 (v := ?_) rfl (by kernel_rfl) ⟨by rfl, ?_⟩ hS ?_
  rotate_left
  · intro w0 hs; obtain ⟨s1, s2, s3⟩ := hs; go_simp; try (with_reducible rfl)
  try simp only [Act.put, List.setIfInBounds_toArray, List.set_cons_zero, List.set_cons_succ]
  refine tkH 7 (v := ?_) rfl (by kernel_rfl) ⟨by rfl, ?_⟩ hS ?_
  rotate_left
  · intro w0 hs; obtain ⟨s1, s2, s3⟩ := hs; go_simp; try (with_reducible rfl)
  try simp only [Act.put, List.setIfInBounds_toArray, List.set_cons_zero, List.set_cons_succ]
  refine tkH 8 (v := ?_) rfl (by kernel_rfl) ⟨by rfl, ?_⟩ hS ?_
  rotate_left
  · intro w0 hs; obtain ⟨s1, s2, s3⟩ := hs; go_simp; try (with_reducible rfl)
  try simp only [Act.put, List.setIfInBounds_toArray, List.set_cons_zero, List.set_cons_succ]
  refine tkH 9 (v := ?_) rfl (by kernel_rfl) ⟨by rfl, ?_⟩ hS ?_
  rotate_left
  · intro w0 hs; obtain ⟨s1, s2, s3⟩ := hs; go_simp; try (with_reducible rfl)
  try simp only [Act.put, List.setIfInBounds_toArray, List.set_cons_zero, List.set_cons_succ]
  refine tkH 10 (v := ?_) rfl (by kernel_rfl) ⟨by rfl, ?_⟩ hS ?_
  rotate_left
  · intro w0 hs; obtain ⟨s1, s2, s3⟩ := hs; go_simp; try (with_reducible rfl)
  try simp only [Act.put, List.setIfInBounds_toArray, List.set_cons_zero, List.set_cons_succ]
  refine tkH 11 (v := ?_) rfl (by kernel_rfl) ⟨by rfl, ?_⟩ hS ?_
  rotate_left
  · intro w0 hs; obtain ⟨s1, s2, s3⟩ := hs; go_simp; try (with_reducible rfl)
  try simp only [Act.put, List.setIfInBounds_toArray, List.set_cons_zero, List.set_cons_succ]
  refine tkH 12 (v := ?_) rfl (by kernel_rfl) ⟨by rfl, ?_⟩ hS ?_
  rotate_left
  · intro w0 hs; obtain ⟨s1, s2, s3⟩ := hs; go_simp; try (with_reducible rfl)
  try simp only [Act.put, List.setIfInBounds_toArray, List.set_cons_zero, List.set_cons_succ]
  refine wpAnyH_ready (rs := [6]) (by kernel_rfl) (by simp) ?_
  refine AllReadyH.cons (o := ⟨_, _, _, _, _, _⟩) rfl (fun K hK => ?_) AllReadyH.nil
  rw [if_pos (by rfl)]
  go_step
  refine PF.out.mono ?_
  rintro e w1 ⟨o1, rfl, P1, k1, ho1⟩
  simp only []
  refine hK.out _ _ (SD.keep hS k1 (fun h => hnP.1 (.inl h)) (fun h => by have := hgl _ (.inl (.inl h)); omega)) (fun hS' => ?_)
  clear hS hK
  have hS := hS'; clear hS'
  try simp only [Act.put, List.setIfInBounds_toArray, List.set_cons_zero, List.set_cons_succ]
  refine wpAnyH_ready (rs := [13]) (by kernel_rfl) (by simp) ?_
  refine AllReadyH.cons (o := ⟨_, _, _, _, _, _⟩) rfl (fun K hK => ?_) AllReadyH.nil
  rw [if_pos (by rfl)]
  go_step
  obtain ⟨D1, pb1⟩ := HD.out.afterP P1 k1 ho1
  have hgw1 : w0.heap.size ≤ w1.heap.size := k1.size
  have hgp1 : ¬ foot p o1 g := fun h => by
    rcases foot_new ho1 h with h2 | h2
    · have := hgl _ (.inl (.inl h2)); omega
    · omega
  have DF := dt_append (ys := ys) ba bc D1 (bytes_keep HY.out.1 (Keep.of_below (X := fun _ => False) P1.bel) (fun _ _ _ h => h)) (fun h0 a ha hf => by have := HY.out.2.2.2 h0 a ha; have := (D1.ft _ hf).1.1; omega) HY.out.2.1 HY.out.2.2.1
  rw [hbn] at DF
  refine DF.mono ?_
  rintro e w2 ⟨oy1, rfl, D2, k2, hoy1⟩
  simp only []
  refine hK.out _ _ (SD.keep hS k2 (fun h => hnP.2 (.inl h)) (fun h => by have := hgl _ (.inr (.inl h)); omega)) (fun hS' => ?_)
  clear hS hK
  have hS := hS'; clear hS'
  try simp only [Act.put, List.setIfInBounds_toArray, List.set_cons_zero, List.set_cons_succ]
  refine tkH 14 (v := ?_) rfl (by kernel_rfl) ⟨by rfl, ?_⟩ hS ?_
  rotate_left
  · intro w0 hs; obtain ⟨s1, s2, s3⟩ := hs; go_simp; try (with_reducible rfl)
  try simp only [Act.put, List.setIfInBounds_toArray, List.set_cons_zero, List.set_cons_succ]
  refine tkH 15 (v := ?_) rfl (by kernel_rfl) ⟨by rfl, ?_⟩ hS ?_
  rotate_left
  · intro w0 hs; obtain ⟨s1, s2, s3⟩ := hs; go_simp; try (with_reducible rfl)
  try simp only [Act.put, List.setIfInBounds_toArray, List.set_cons_zero, List.set_cons_succ]
  refine tkH 16 (v := ?_) rfl (by kernel_rfl) ⟨by rfl, ?_⟩ hS ?_
  rotate_left
  · intro w0 hs; obtain ⟨s1, s2, s3⟩ := hs; go_simp; try (with_reducible rfl)
  try simp only [Act.put, List.setIfInBounds_toArray, List.set_cons_zero, List.set_cons_succ]
  refine wpAnyH_ready (rs := [17]) (by kernel_rfl) (by simp) ?_
  refine AllReadyH.cons (o := ⟨_, _, _, _, _, _⟩) rfl (fun K hK => ?_) AllReadyH.nil
  rw [if_pos (by rfl)]
  go_step
  have T2 := HT.join' D1 P1 pb1 HD.out.hP k2 hoy1 D2
  have hgy1 : ¬ foot y oy1 g := fun h => by
    rcases foot_new hoy1 h with h2 | h2
    · have := hgl _ (.inr (.inl h2)); omega
    · omega
  refine (popen hW T2).mono ?_
  rintro e w3 hp
  obtain rfl := hp.1
  have hlv := hp.lv
  have k3 := hp.2.1
  simp only []
  refine hK.out _ _ ⟨hlv.cells.1, hlv.cells.2, (k3.cell (p := ⟨g, 4, none⟩) (cell_lt hS.2.2) (fun h => h.elim hgp1 (fun h => h.elim hgy1 (fun h => by have e : g = P := h; omega)))).trans hS.2.2⟩ (fun hS' => ?_)
  clear hS hK
  have hS := hS'; clear hS'
  try simp only [Act.put, List.setIfInBounds_toArray, List.set_cons_zero, List.set_cons_succ]
  refine tkH 18 (v := ?_) rfl (by kernel_rfl) ⟨by rfl, ?_⟩ hS ?_
  rotate_left
  · intro w0 hs; obtain ⟨s1, s2, s3⟩ := hs; go_simp; try (with_reducible rfl)
  try simp only [Act.put, List.setIfInBounds_toArray, List.set_cons_zero, List.set_cons_succ]
  refine tkH 19 (v := ?_) rfl (by kernel_rfl) ⟨by rfl, ?_⟩ hS ?_
  rotate_left
  · intro w0 hs; obtain ⟨s1, s2, s3⟩ := hs; go_simp; try (with_reducible rfl)
  try simp only [Act.put, List.setIfInBounds_toArray, List.set_cons_zero, List.set_cons_succ]
  refine wpAnyH_done (by kernel_rfl) ?_ _
  have HF := Lib.hid hlv
  clear hlv hp k3 T2 P1 D2 D1 pb1 k2 ho1 hoy1 hS
  go_wp2
  go_ret
  exact ⟨rfl, HF.out⟩
end Go.Proofs.YtbjbjgfjaopibaaGreatDoor
end

section
/- The law's pair: does, Commit. -/
namespace Go.Proofs.YtbjbjgfjaopibaaGreatDoor
open Go Go.RowKit
set_option linter.unusedSimpArgs false
set_option linter.unusedVariables false
set_option maxRecDepth 100000

/-- pairs whose values may be written, in blocks from lo on, below hi -/
def Giv (lo hi : Nat) (q : Option Addr) (P : List PairD) (w : World) : Prop :=
  ∀ i y, P[i]? = some y → ∃ ge, q = some ⟨ge, 0, none⟩ ∧ (lo ≤ ge ∧ ge < hi) ∧ w.cell? ⟨ge, i * 2, none⟩ = some (.string y.key) ∧ w.cell? ⟨ge, i * 2 + 1, none⟩ = some (.slice y.val.a y.val.z.length y.val.c) ∧ y.val.z.length ≤ 140737488351232 ∧
    ∀ j, j < y.val.z.length → ∃ b off z, y.val.a = some ⟨b, off, none⟩ ∧ w.cell? ⟨b, off + j, none⟩ = some (.int .u8 z) ∧ w.frozen? ⟨b, off + j, none⟩ = false ∧ lo ≤ b ∧ b < hi ∧ b ≠ ge
theorem Giv.keep {lo hi : Nat} {q : Option Addr} {P : List PairD} {w w' : World} {Y : Nat → Prop} (h : Giv lo hi q P w) (hk : Keep Y w w') (hy : ∀ k, Y k → ¬ (lo ≤ k ∧ k < hi)) : Giv lo hi q P w' := fun i y hi => by
  obtain ⟨ge, h1, h2, h3, h4, h5, h6⟩ := h i y hi
  refine ⟨ge, h1, h2, (hk.cell (p := ⟨ge, i * 2, none⟩) (cell_lt h3) (fun e => hy _ e h2)).trans h3, (hk.cell (p := ⟨ge, i * 2 + 1, none⟩) (cell_lt h4) (fun e => hy _ e h2)).trans h4, h5, fun j hj => ?_⟩
  obtain ⟨b, off, z, e1, e2, e3, e4, e5, e6⟩ := h6 j hj
  have hlt : b < w.heap.size := cell_lt (p := ⟨b, off + j, none⟩) e2
  exact ⟨b, off, z, e1, (hk.cell (p := ⟨b, off + j, none⟩) hlt (fun e => hy _ e ⟨e4, e5⟩)).trans e2, (World.frozen?_of_block (w := w) (a := ⟨b, off + j, none⟩) (hk.block b hlt (fun e => hy _ e ⟨e4, e5⟩))).trans e3, e4, e5, e6⟩
theorem Giv.set {lo hi : Nat} {q : Option Addr} {P : List PairD} {w : World} (h : Giv lo hi q P w) {ge b x : Nat} (hq : q = some ⟨ge, 0, none⟩) (hb : b ≠ ge) (z : Int) : Giv lo hi q P (w.setCell ⟨b, x, none⟩ (.int .u8 z)) := fun i y hi => by
  obtain ⟨ge', h1, h2, h3, h4, h5, h6⟩ := h i y hi
  rw [hq] at h1; cases h1
  refine ⟨ge, hq, h2, ?_, ?_, h5, fun j hj => ?_⟩
  · rw [World.cell?_setCell_other _ _ _ _ (by intro e; cases e; exact hb rfl)]; exact h3
  · rw [World.cell?_setCell_other _ _ _ _ (by intro e; cases e; exact hb rfl)]; exact h4
  · obtain ⟨b', off, z', e1, e2, e3, e4⟩ := h6 j hj
    by_cases he : (⟨b, x, none⟩ : Addr) = ⟨b', off + j, none⟩
    · exact ⟨b', off, z, e1, by rw [he]; exact World.cell?_setCell_same _ _ _ e2, by rw [World.frozen?_setCell]; exact e3, e4⟩
    · exact ⟨b', off, z', e1, by rw [World.cell?_setCell_other _ _ _ _ he]; exact e2, by rw [World.frozen?_setCell]; exact e3, e4⟩
theorem Giv.of {w : World} {G : Nat} {q : Option Addr} {c : Nat} {P : List PairD} (h : LstAt pairW 58 w G (.slice q P.length c) P) : Giv G w.heap.size q P w := fun i y hi => by
  obtain ⟨o, h1, h2, h3⟩ := h
  have hil : i < P.length := by
    rcases Nat.lt_or_ge i P.length with h | h
    · exact h
    · rw [List.getElem?_eq_none h] at hi; cases hi
  have hix : P[i] = y := by rw [List.getElem?_eq_getElem hil] at hi; exact Option.some.inj hi
  obtain ⟨g, cap, e1, e2, _, _, hg, hc, _⟩ := h1.mem (by omega)
  cases e2
  have hat := h3 y (by rw [← hix]; exact List.getElem_mem hil)
  have hcell : ∀ j, j < 2 → w.cell? ⟨g, i * 2 + j, none⟩ = (pairCs y)[j]? := fun j hj => by
    rw [hc (i * 2 + j) (by show i * 2 + j < P.length * 2; omega), ← hix]
    exact flat_get pairW P i j hil hj
  refine ⟨g, rfl, ⟨h2 g e1, hg⟩, hcell 0 (by omega), hcell 1 (by omega), hat.1.2.1.1.len, fun j hj => ?_⟩
  obtain ⟨b, off, hA, hcl⟩ := hat.1.2.1.1.bytes.at (by omega)
  have hb := hat.1.2.2 _ hA
  exact ⟨b, off, _, hA, hcl j hj, (hat.2 _ hA).2 _, hb.1, hb.2.1, fun e => hb.2.2 (by rw [e1, e])⟩
/-- cells that the first Commit reads -/
def SE (P i gb : Nat) (a b c : Value) (k : Nat) (w : World) : Prop := w.cell? ⟨P, i, none⟩ = some a ∧ w.cell? ⟨gb, k, none⟩ = some b ∧ w.cell? ⟨gb, k + 1, none⟩ = some c
theorem SE.keep {P i gb k : Nat} {a b c : Value} {w w' : World} {Y : Nat → Prop} (h : SE P i gb a b c k w) (hk : Keep Y w w') (h1 : ¬ Y P) (h2 : ¬ Y gb) : SE P i gb a b c k w' :=
  ⟨(hk.cell (p := ⟨P, i, none⟩) (cell_lt h.1) h1).trans h.1, (hk.cell (p := ⟨gb, k, none⟩) (cell_lt h.2.1) h2).trans h.2.1, (hk.cell (p := ⟨gb, k + 1, none⟩) (cell_lt h.2.2) h2).trans h.2.2⟩
set_option maxHeartbeats 64000000 in
theorem pdoes_commit {W w : World} {P p j b y x : Nat} {o oy : Option Nat} {s : JS} {L : List PairD} (hW : Glob W) (h : J2 W w P p o j b y oy x s L) (op n : Int) (pa da ba : Option Addr) (pn pc dn dc bn bc : Nat) (px : Nat → PairD) (dx : Nat → ByteArray) (m : Int) (hm : m = 0 ∨ m = 1 ∨ m = 2 ∨ m = 3 ∨ m = 4) (e1 : wrap64 ((IntKind.u64.wrap op).tmod 10) = m) (hX : BatOk W ⟨⟨pa, pn, pc, px⟩, ⟨da, dn, dc, dx⟩⟩) (hXN : BatIn (fun g => g < W.heap.size) ⟨⟨pa, pn, pc, px⟩, ⟨da, dn, dc, dx⟩⟩)
    (hpn : pn * 40 ≤ 140737488351232) (hdn : dn * 16 ≤ 140737488351232) :
    Calls Tryz.prog 7 #[.pointer (some ⟨P, 0, none⟩), .agg #[.int .i64 op, .int .i64 n, .slice pa pn pc, .slice da dn dc, .slice ba bn bc]] w fun e w' => e = .returned (.bool true) ∧ LV W P p y w' := by
  have k0 : Below w.heap.size w (w.alloc (.cells #[.int .i64 op, .int .i64 n, .slice pa pn pc, .slice da dn dc, .slice ba bn bc] 43)) := (Below.refl w.heap.size w).alloc (Nat.le_refl _) _
  have b0 := Blk.new w #[.int .i64 op, .int .i64 n, .slice pa pn pc, .slice da dn dc, .slice ba bn bc] 43
  have h0 := h.more k0
  have hgl : ∀ k, fp p o j b k ∨ fd y oy x k → k < w.heap.size := fun k hk => hk.elim (fun h1 => (h.ph.lt k h1).2) (fun h1 => (h.dh.lt k h1).2)
  have hPw : P < w.heap.size := h.pb.lt
  go_enter Tryz.func7, Tryz.ntmps7
  go_upto_region 1 with fail
  obtain ⟨w0, hw0⟩ : ∃ w0, w0 = w.alloc (.cells #[.int .i64 op, .int .i64 n, .slice pa pn pc, .slice da dn dc, .slice ba bn bc] 43) := ⟨_, rfl⟩
  rw [← hw0] at k0 b0 h0 ⊢
  clear hw0
  obtain ⟨g, hg⟩ : ∃ g, g = w.heap.size := ⟨_, rfl⟩
  rw [← hg] at b0 ⊢
  have cb0 := b0.cell 0
  have HG := Lib.hid (And.intro k0 (And.intro b0 (And.intro h0 (And.intro hgl (And.intro hPw hg)))))
  clear k0 b0 h0 hgl hPw hg
  have HJ := Lib.hid h
  have HX := Lib.hid (And.intro hX (And.intro hXN (And.intro hpn hdn)))
  clear h hX hXN hpn hdn
  go_upto_region 3 with fail
  rw [e1]
  clear e1 cb0
  rcases hm with rfl | rfl | rfl | rfl | rfl
  all_goals
    have hX0 : BatOk w0 ⟨⟨pa, pn, pc, px⟩, ⟨da, dn, dc, dx⟩⟩ := HX.out.1.below (HG.out.2.2.1.ph.t.bel.mono (Nat.le_refl _))
    have PC := rcopyb ⟨⟨pa, pn, pc, px⟩, ⟨da, dn, dc, dx⟩⟩ w0 hX0 HX.out.2.2.1 HX.out.2.2.2 (fun i hi => by obtain ⟨_, _, _, _, _, hok⟩ := HX.out.1.1.2.2.2 i hi; exact hok.2.2)
    change Calls Tryz.prog 12 #[.agg #[.slice pa pn pc, .slice da dn dc]] _ _ at PC
    have PC := Lib.hid PC
    clear hX0
    have cb2 := HG.out.2.1.cell 2
    have cb3 := HG.out.2.1.cell 3
    go_upto_region 8 with fail
    go_wp2_with fail
    refine PC.out.mono ?_
    rintro e w1 ⟨pq, dq, qn, tn, Pl, Y, rfl, hP, hY, hbx, hb1⟩
    have hb01 : Below w.heap.size w w1 := HG.out.1.trans (hb1.mono HG.out.1.size)
    have hPl : Pl.length ≤ 140737488351232 := by
      have h := congrArg (fun b : BatD => b.puts.length) hbx
      have h2 : pn = Pl.length := by simpa [batX] using h
      rw [← h2]; have := HX.out.2.2.1; omega
    have hYl : Y.length ≤ 140737488351232 := by
      have h := congrArg (fun b : BatD => b.dels.length) hbx
      have h2 : dn = Y.length := by simpa [batX] using h
      rw [← h2]; have := HX.out.2.2.2; omega
    have hgiv := Giv.of hP
    have k2 := (Below.refl w1.heap.size w1).alloc (Nat.le_refl _) (.cells #[.slice pq Pl.length qn, .slice dq Y.length tn] 41)
    have b2 := Blk.new w1 #[.slice pq Pl.length qn, .slice dq Y.length tn] 41
    have hs2 : (w1.alloc (.cells #[.slice pq Pl.length qn, .slice dq Y.length tn] 41)).heap.size = w1.heap.size + 1 := by simp
    obtain ⟨w2, hw2⟩ : ∃ w2, w2 = w1.alloc (.cells #[.slice pq Pl.length qn, .slice dq Y.length tn] 41) := ⟨_, rfl⟩
    rw [← hw2] at k2 b2 hs2
    have kk : Keep (fun _ => False) w w2.drew := (Keep.of_below (hb01.trans (k2.mono hb01.size))).drew
    have hlo : g < w0.heap.size := HG.out.2.1.lt
    have h01 : w0.heap.size ≤ w1.heap.size := hb1.size
    obtain ⟨lo, hloe⟩ : ∃ lo, lo = w0.heap.size := ⟨_, rfl⟩
    obtain ⟨gb, hgbe⟩ : ∃ gb, gb = w1.heap.size := ⟨_, rfl⟩
    rw [← hgbe] at b2 hs2 h01 hgiv
    rw [← hloe] at hlo h01 hgiv
    have hwg := HG.out.2.2.2.2.2
    have hd2 : w2.drew.heap.size = gb + 1 := hs2
    have P1 : PH W w2.drew (fun k => (fd y oy x k ∨ k = P) ∨ (g ≤ k ∧ k < gb + 1)) p o j b s := HJ.out.ph.step kk (fun _ h => h.elim) (fun k hk => by
      rcases hk with hk | hk
      · exact ⟨.inl hk, Nat.lt_of_lt_of_le (HJ.out.ph.t.fl k hk) kk.size⟩
      · exact ⟨.inr (by omega), by omega⟩)
    have D1 : DH W w2.drew (fun k => (fp p o j b k ∨ k = P) ∨ (g ≤ k ∧ k < gb + 1)) y oy x s L := HJ.out.dh.step kk (fun _ h => h.elim) (fun k hk => by
      rcases hk with hk | hk
      · exact ⟨.inl hk, Nat.lt_of_lt_of_le (HJ.out.dh.t.fl k hk) kk.size⟩
      · exact ⟨.inr (by omega), by omega⟩)
    have pb1 := kk.blk HJ.out.pb (fun h => h)
    have bg1 : Blk w2.drew g #[.int .i64 op, .int .i64 n, .slice pa pn pc, .slice da dn dc, .slice ba bn bc] 43 := (HG.out.2.1.beyond (hb1.mono (Nat.le_refl _))).beyond k2.drew
    have b2d : Blk w2.drew gb #[.slice pq Pl.length qn, .slice dq Y.length tn] 41 := b2
    obtain ⟨okX, inX⟩ := batL_okM (lstW (hP.more (k2.mono (Nat.le_refl _)))) (hY.more (k2.mono (Nat.le_refl _))) hPl hYl
    have hbX : batX (batL pq qn Pl dq tn Y) = batX ⟨⟨pa, pn, pc, px⟩, ⟨da, dn, dc, dx⟩⟩ := by rw [batL_x, hbx]
    have nfp : ∀ k, (g ≤ k ∧ k < gb + 1) → ¬ fp p o j b k := fun k hk hf => (P1.lt k hf).1.2 (.inr hk)
    have PC2 := PH.commit hW P1 (X := batL pq qn Pl dq tn Y) (okX.below (Below.refl _ _).drew) (inX.mono (fun k hk => nfp k ⟨by have := hk.1; omega, by have := hk.2; omega⟩))
    rw [hbX] at PC2
    change Calls Tryz.prog 13 #[.pointer (some ⟨j, 0, none⟩), .agg #[.slice pq Pl.length qn, .slice dq Y.length tn]] _ _ at PC2
    have PC2 := Lib.hid PC2
    have hS0 : SE P 0 gb (.pointer (some ⟨j, 0, none⟩)) (.slice pq Pl.length qn) (.slice dq Y.length tn) 0 w2.drew := ⟨pb1.cell 0, b2d.cell 0, b2d.cell 1⟩
    have nPf : ¬ fp p o j b P := fun hf => (P1.lt P hf).1.2 (.inl (.inr rfl))
    have HP := Lib.hid (And.intro P1 (And.intro D1 (And.intro pb1 (And.intro bg1 (And.intro b2d (And.intro (hgiv.keep (Keep.of_below (X := fun _ => False) k2) (fun _ h => h.elim)) (And.intro nfp nPf)))))))
    have HZ := Lib.hid (And.intro hlo (And.intro h01 (And.intro hd2 hPl)))
    clear P1 D1 pb1 bg1 b2d hgiv nfp nPf okX inX hbX hP hY hbx hb1 hb01 kk k2 b2 hs2 hPl hYl hlo h01 hd2 hwg hloe cb2 cb3
    obtain ⟨nl, hnl⟩ : ∃ nl, nl = Pl.length := ⟨_, rfl⟩
    obtain ⟨yl, hyl⟩ : ∃ yl, yl = Y.length := ⟨_, rfl⟩
    rw [← hnl] at hw2 PC2 hS0 ⊢
    rw [← hyl] at hw2 PC2 hS0 ⊢
    have HN := Lib.hid (And.intro hnl hyl)
    clear hnl hyl
    go_upto_region 9 with fail
    rw [← hw2, ← hgbe]
    clear hw2 hgbe
    refine wp_region_held_drew (S := SE P 0 gb (.pointer (some ⟨j, 0, none⟩)) (.slice pq nl qn) (.slice dq yl tn) 0) (by kernel_rfl) hS0 (fun hS => ?_)
    refine tkH 0 (v := ?_) rfl (by kernel_rfl) ⟨by rfl, ?_⟩ hS ?_
    rotate_left
    · intro w0 hs; obtain ⟨s1, s2, s3⟩ := hs; go_simp; try (with_reducible rfl)
    try simp only [Act.put, List.setIfInBounds_toArray, List.set_cons_zero, List.set_cons_succ]
    refine tkH 1 (v := ?_) rfl (by kernel_rfl) ⟨by rfl, ?_⟩ hS ?_
    rotate_left
    · intro w0 hs; obtain ⟨s1, s2, s3⟩ := hs; go_simp; try (with_reducible rfl)
    try simp only [Act.put, List.setIfInBounds_toArray, List.set_cons_zero, List.set_cons_succ]
    refine tkH 2 (v := ?_) rfl (by kernel_rfl) ⟨by rfl, ?_⟩ hS ?_
    rotate_left
    · intro w0 hs; obtain ⟨s1, s2, s3⟩ := hs; go_simp; try (with_reducible rfl)
    try simp only [Act.put, List.setIfInBounds_toArray, List.set_cons_zero, List.set_cons_succ]
    refine tkH 3 (v := ?_) rfl (by kernel_rfl) ⟨by rfl, ?_⟩ hS ?_
    rotate_left
    · intro w0 hs; obtain ⟨s1, s2, s3⟩ := hs; go_simp; try (with_reducible rfl)
    try simp only [Act.put, List.setIfInBounds_toArray, List.set_cons_zero, List.set_cons_succ]
    refine tkH 4 (v := ?_) rfl (by kernel_rfl) ⟨by rfl, ?_⟩ hS ?_
    rotate_left
    · intro w0 hs; obtain ⟨s1, s2, s3⟩ := hs; go_simp; try (with_reducible rfl)
    try simp only [Act.put, List.setIfInBounds_toArray, List.set_cons_zero, List.set_cons_succ]
    refine wpAnyH_ready (rs := [5]) (by kernel_rfl) (by simp) ?_
    refine AllReadyH.cons (o := ⟨_, _, _, _, _, _⟩) rfl (fun K hK => ?_) AllReadyH.nil
    rw [if_pos (by rfl)]
    go_step
    refine PC2.out.mono ?_
    rintro e w3 ⟨o1, rfl, P3, k3, ho1⟩
    simp only []
    refine hK.out _ _ (SE.keep hS k3 HP.out.2.2.2.2.2.2.2 (HP.out.2.2.2.2.2.2.1 gb ⟨by have := HZ.out; omega, by omega⟩)) (fun hS' => ?_)
    clear hS hK
    have hS := hS'; clear hS'
    try simp only [Act.put, List.setIfInBounds_toArray, List.set_cons_zero, List.set_cons_succ]
    refine tkH 6 (v := ?_) rfl (by kernel_rfl) ⟨by rfl, ?_⟩ hS ?_
    rotate_left
    · intro w0 hs; obtain ⟨s1, s2, s3⟩ := hs; go_simp; try (with_reducible rfl)
    try simp only [Act.put, List.setIfInBounds_toArray, List.set_cons_zero, List.set_cons_succ]
    refine wpAnyH_done (by kernel_rfl) ?_ _
    obtain ⟨E, hE⟩ : ∃ E, E = (comS s (batX ⟨⟨pa, pn, pc, px⟩, ⟨da, dn, dc, dx⟩⟩)).1 := ⟨_, rfl⟩
    rw [← hE]
    have HE := Lib.hid hE
    clear hE
    have D3 : DH W w3 (fun k => (fp p o1 j b k ∨ k = P) ∨ (g ≤ k ∧ k < gb + 1)) y oy x s L := HP.out.2.1.step k3 (fun k hk => ⟨.inl (.inl hk), (HP.out.1.lt k hk).1.1⟩) (fun k hk => by
      rcases hk with (hk | rfl) | hk
      · refine ⟨?_, (P3.lt k hk).2⟩
        rcases hk with hk | hk
        · exact (foot_new ho1 hk).imp (fun h => .inl (.inl (.inl h))) id
        · exact .inl (.inl (.inl (.inr hk)))
      · exact ⟨.inl (.inl (.inr rfl)), Nat.lt_of_lt_of_le HP.out.2.2.1.lt k3.size⟩
      · exact ⟨.inl (.inr hk), by have := HZ.out.2.2.1; have := k3.size; omega⟩)
    have nGv : ∀ k, fp p o j b k → ¬ (lo ≤ k ∧ k < gb) := fun k hf hk => HP.out.2.2.2.2.2.2.1 k ⟨by have := HZ.out.1; omega, by omega⟩ hf
    have gv3 : Giv lo gb pq Pl w3 := (HP.out.2.2.2.2.2.1.keep (Keep.of_below (Below.refl _ _).drew : Keep (fun _ => False) w2 w2.drew) (fun _ h => h.elim)).keep k3 nGv
    have pb3 := k3.blk HP.out.2.2.1 HP.out.2.2.2.2.2.2.2
    have bg3 := k3.blk HP.out.2.2.2.1 (HP.out.2.2.2.2.2.2.1 g ⟨Nat.le_refl _, by have := HZ.out; omega⟩)
    have cq : w3.cell? ⟨gb, 0, none⟩ = some (.slice pq nl qn) := hS.2.1
    have hs3 : gb + 1 ≤ w3.heap.size := by have := HZ.out.2.2.1; have := k3.size; omega
    have H3 := Lib.hid (And.intro P3 (And.intro D3 (And.intro gv3 (And.intro pb3 (And.intro bg3 hs3)))))
    clear P3 D3 gv3 pb3 bg3 hs3 nGv k3 ho1 hS hS0
    go_wp2
    go_loopg [51] nl (fun gh i wx => ∃ k : Nat, i = .int .i64 (k : Int) ∧ gh = nl - k ∧ k ≤ nl ∧ Hid (Giv lo gb pq Pl wx ∧ Keep (fun b => lo ≤ b ∧ b < gb) w3 wx))
    case atStart => exact ⟨0, rfl, rfl, Nat.zero_le _, H3.out.2.2.1, Keep.refl _ _⟩
    case round =>
      obtain ⟨k, rfl, hg, hkn, HK⟩ := hrel
      have HGK := Lib.hid hg
      clear hg
      have hnl : nl ≤ 140737488351232 := by rw [HN.out.1]; exact HZ.out.2.2.2
      by_cases hlt : k < nl
      · obtain ⟨⟨yk, ⟨va, vc, vz⟩⟩, hyE⟩ : ∃ y : PairD, Pl[k]? = some y := getElem?_lt (by rw [← HN.out.1]; exact hlt)
        obtain ⟨ge, rfl, hge, t0, t1, hvl, hrow⟩ := HK.out.1 k _ hyE
        change wr.cell? ⟨ge, k * 2, none⟩ = some (.string yk) at t0
        change wr.cell? ⟨ge, k * 2 + 1, none⟩ = some (.slice va vz.length vc) at t1
        change vz.length ≤ 140737488351232 at hvl
        have bx := Blk.new wr #[.string yk, .slice va vz.length vc] 58
        have kx := (Below.refl wr.heap.size wr).alloc (Nat.le_refl _) (.cells #[.string yk, .slice va vz.length vc] 58)
        have cx1 := bx.cell 1
        obtain ⟨w4, hw4⟩ : ∃ w4, w4 = wr.alloc (.cells #[.string yk, .slice va vz.length vc] 58) := ⟨_, rfl⟩
        rw [← hw4] at bx kx cx1
        have by' := Blk.new w4 #[.slice va vz.length vc] 22
        have ky := kx.trans (((Below.refl w4.heap.size w4).alloc (Nat.le_refl _) (.cells #[.slice va vz.length vc] 22)).mono kx.size)
        obtain ⟨w5, hw5⟩ : ∃ w5, w5 = w4.alloc (.cells #[.slice va vz.length vc] 22) := ⟨_, rfl⟩
        rw [← hw5] at by' ky
        have h3r := HK.out.2.size
        have h34 := kx.size
        obtain ⟨zl, hzl⟩ : ∃ zl, zl = vz.length := ⟨_, rfl⟩
        have PSp := spoil_inv w4.heap.size va vz.length vc (fun w => Giv lo gb (some ⟨ge, 0, none⟩) Pl w ∧ Keep (fun b => lo ≤ b ∧ b < gb) w3 w ∧ w.cell? ⟨w4.heap.size, 0, none⟩ = some (.slice va vz.length vc)) w5 hvl
          ⟨HK.out.1.keep (Keep.of_below (X := fun _ => False) ky) (fun _ h => h.elim), HK.out.2.trans (Keep.of_below ky), by'.cell 0⟩
          (fun wz hz => ⟨hz.2.2, fun j hj => by
            obtain ⟨ge', hq', hge', _, _, _, hr⟩ := hz.1 k _ hyE
            cases hq'
            obtain ⟨bb, off, z, e1, e2, e3, e4, e5, e6⟩ := hr j hj
            exact ⟨bb, off, z, e1, e2, e3, fun z' => ⟨hz.1.set rfl e6 z', hz.2.1.set (p := ⟨bb, off + j, none⟩) (.inl ⟨e4, e5⟩) _, by
              rw [World.cell?_setCell_other _ _ _ _ (by intro e; have e' : bb = w4.heap.size := congrArg Addr.block e; have := H3.out.2.2.2.2.2; omega)]; exact hz.2.2⟩⟩⟩)
        rw [← hzl] at PSp hw4 hw5 t1 cx1
        have PSp := Lib.hid PSp
        have HY2 := Lib.hid (And.intro hzl hge)
        clear bx kx by' ky hrow hyE hzl hvl hge h3r h34
        go_upto_region 13 with fail
        rw [← hw4]
        clear hw4
        go_wp2_with fail
        rw [← hw5]
        clear hw5
        refine PSp.out.mono ?_
        rintro e w6 ⟨rfl, hI⟩
        have HI := Lib.hid hI
        clear hI
        go_wp2
        go_roundg (nl - (k + 1))
        case measure => rw [HGK.out]; omega
        case rel => exact ⟨k + 1, by go_num, rfl, hlt, HI.out.1, HI.out.2.1⟩
      · obtain rfl : k = nl := by omega
        have kd : Keep (fun b => lo ≤ b ∧ b < gb) w3 wr.drew := HK.out.2.drew
        have hWg : W.heap.size ≤ g := by rw [HG.out.2.2.2.2.2]; exact HJ.out.ph.t.bel.size
        have hPg : P < g := by rw [HG.out.2.2.2.2.2]; exact HG.out.2.2.2.2.1
        have hlo := HZ.out.1
        have hsz := kd.size
        have P4 : PH W wr.drew (fun k => (fd y oy x k ∨ k = P) ∨ (g ≤ k ∧ k < gb + 1)) p o1 j b (comS s (batX ⟨⟨pa, pn, pc, px⟩, ⟨da, dn, dc, dx⟩⟩)).2 := H3.out.1.step kd (fun k hk => ⟨.inr (by omega), by omega⟩) (fun k hk => ⟨.inl hk, Nat.lt_of_lt_of_le (H3.out.1.t.fl k hk) hsz⟩)
        have D4 : DH W wr.drew (fun k => (fp p o1 j b k ∨ k = P) ∨ (g ≤ k ∧ k < gb + 1)) y oy x s L := H3.out.2.1.step kd (fun k hk => ⟨.inr (by omega), by omega⟩) (fun k hk => ⟨.inl hk, Nat.lt_of_lt_of_le (H3.out.2.1.t.fl k hk) hsz⟩)
        have pb4 := kd.blk H3.out.2.2.2.1 (fun h => by omega)
        have bg4 := kd.blk H3.out.2.2.2.2.1 (fun h => by omega)
        have PC3 := DH.commit D4 (HX.out.1.below (P4.t.bel.mono (Nat.le_refl _))) (HX.out.2.1.mono (fun k hk hf => by have := (D4.lt k hf).1.1; omega))
        change Calls Tryz.prog 15 #[.pointer (some ⟨x, 0, none⟩), .agg #[.slice pa pn pc, .slice da dn dc]] _ _ at PC3
        rw [← HE.out] at PC3
        have PC3 := Lib.hid PC3
        have hS0 : SE P 1 g (.pointer (some ⟨x, 0, none⟩)) (.slice pa pn pc) (.slice da dn dc) 2 wr.drew := ⟨pb4.cell 1, bg4.cell 2, bg4.cell 3⟩
        have nPd : ¬ fd y oy x P := fun hf => (D4.lt P hf).1.2 (.inl (.inr rfl))
        have ngd : ¬ fd y oy x g := fun hf => (D4.lt g hf).1.2 (.inr ⟨Nat.le_refl _, by have := HZ.out; omega⟩)
        have H4 := Lib.hid (And.intro P4 (And.intro D4 pb4))
        clear P4 D4 pb4 bg4 kd hsz
        go_upto_region 15 with fail
        refine wp_region_held_drew (S := SE P 1 g (.pointer (some ⟨x, 0, none⟩)) (.slice pa pn pc) (.slice da dn dc) 2) (by kernel_rfl) hS0 (fun hS => ?_)
        refine tkH 0 (v := ?_) rfl (by kernel_rfl) ⟨by rfl, ?_⟩ hS ?_
        rotate_left
        · intro w0 hs; obtain ⟨s1, s2, s3⟩ := hs; go_simp; try (with_reducible rfl)
        try simp only [Act.put, List.setIfInBounds_toArray, List.set_cons_zero, List.set_cons_succ]
        refine tkH 1 (v := ?_) rfl (by kernel_rfl) ⟨by rfl, ?_⟩ hS ?_
        rotate_left
        · intro w0 hs; obtain ⟨s1, s2, s3⟩ := hs; go_simp; try (with_reducible rfl)
        try simp only [Act.put, List.setIfInBounds_toArray, List.set_cons_zero, List.set_cons_succ]
        refine tkH 2 (v := ?_) rfl (by kernel_rfl) ⟨by rfl, ?_⟩ hS ?_
        rotate_left
        · intro w0 hs; obtain ⟨s1, s2, s3⟩ := hs; go_simp; try (with_reducible rfl)
        try simp only [Act.put, List.setIfInBounds_toArray, List.set_cons_zero, List.set_cons_succ]
        refine tkH 3 (v := ?_) rfl (by kernel_rfl) ⟨by rfl, ?_⟩ hS ?_
        rotate_left
        · intro w0 hs; obtain ⟨s1, s2, s3⟩ := hs; go_simp; try (with_reducible rfl)
        try simp only [Act.put, List.setIfInBounds_toArray, List.set_cons_zero, List.set_cons_succ]
        refine tkH 4 (v := ?_) rfl (by kernel_rfl) ⟨by rfl, ?_⟩ hS ?_
        rotate_left
        · intro w0 hs; obtain ⟨s1, s2, s3⟩ := hs; go_simp; try (with_reducible rfl)
        try simp only [Act.put, List.setIfInBounds_toArray, List.set_cons_zero, List.set_cons_succ]
        refine tkH 5 (v := ?_) rfl (by kernel_rfl) ⟨by rfl, ?_⟩ hS ?_
        rotate_left
        · intro w0 hs; obtain ⟨s1, s2, s3⟩ := hs; go_simp; try (with_reducible rfl)
        try simp only [Act.put, List.setIfInBounds_toArray, List.set_cons_zero, List.set_cons_succ]
        refine tkH 6 (v := ?_) rfl (by kernel_rfl) ⟨by rfl, ?_⟩ hS ?_
        rotate_left
        · intro w0 hs; obtain ⟨s1, s2, s3⟩ := hs; go_simp; try (with_reducible rfl)
        try simp only [Act.put, List.setIfInBounds_toArray, List.set_cons_zero, List.set_cons_succ]
        refine wpAnyH_ready (rs := [7]) (by kernel_rfl) (by simp) ?_
        refine AllReadyH.cons (o := ⟨_, _, _, _, _, _⟩) rfl (fun K hK => ?_) AllReadyH.nil
        rw [if_pos (by rfl)]
        go_step
        refine PC3.out.mono ?_
        rintro e w6 ⟨oy1, L', rfl, D6, k6, hoy1⟩
        simp only []
        refine hK.out _ _ (SE.keep hS k6 nPd ngd) (fun hS' => ?_)
        clear hS hK
        have hS := hS'; clear hS'
        try simp only [Act.put, List.setIfInBounds_toArray, List.set_cons_zero, List.set_cons_succ]
        refine tkH 8 (v := ?_) rfl (by kernel_rfl) ⟨by rfl, ?_⟩ hS ?_
        rotate_left
        · intro w0 hs; obtain ⟨s1, s2, s3⟩ := hs; go_simp; try (with_reducible rfl)
        try simp only [Act.put, List.setIfInBounds_toArray, List.set_cons_zero, List.set_cons_succ]
        refine tkH 9 (v := ?_) rfl (by kernel_rfl) ⟨by rfl, ?_⟩ hS ?_
        rotate_left
        · intro w0 hs; obtain ⟨s1, s2, s3⟩ := hs; go_simp; try (with_reducible rfl)
        try simp only [Act.put, List.setIfInBounds_toArray, List.set_cons_zero, List.set_cons_succ]
        refine wpAnyH_done (by kernel_rfl) ?_ _
        have P6 : PH W w6 (fun k => fd y oy1 x k ∨ k = P) p o1 j b (comS s (batX ⟨⟨pa, pn, pc, px⟩, ⟨da, dn, dc, dx⟩⟩)).2 := H4.out.1.step k6 (fun k hk => ⟨.inl (.inl hk), (H4.out.2.1.lt k hk).1.1⟩) (fun k hk => by
          rcases hk with hk | rfl
          · refine ⟨?_, (D6.lt k hk).2⟩
            rcases hk with hk | hk
            · exact (foot_new hoy1 hk).imp (fun h => .inl (.inl (.inl h))) id
            · exact .inl (.inl (.inl (.inr hk)))
          · exact ⟨.inl (.inl (.inr rfl)), Nat.lt_of_lt_of_le H4.out.2.2.lt k6.size⟩)
        have D7 := D6.step (F' := fun k => fp p o1 j b k ∨ k = P) (Keep.refl (fun _ => False) w6) (fun _ h => h.elim) (fun k hk => ⟨.inl (.inl hk), D6.t.fl k (.inl hk)⟩)
        have HF := Lib.hid (show J2 W w6 P p o1 j b y oy1 x _ L' from ⟨P6, D7, k6.blk H4.out.2.2 nPd, HJ.out.hP⟩)
        clear P6 D7 D6 k6 hoy1 hS hS0
        go_wp2
        go_ret
        exact ⟨by simp, .inr ⟨o1, oy1, j, b, x, _, L', HF.out⟩⟩
end Go.Proofs.YtbjbjgfjaopibaaGreatDoor
end
