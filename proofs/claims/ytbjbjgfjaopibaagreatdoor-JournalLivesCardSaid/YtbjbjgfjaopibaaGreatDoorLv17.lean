import Derived.Test.YtbjbjgfjaopibaaGreatDoorLv5
import Derived.Test.YtbjbjgfjaopibaaGreatDoorLv16
import Derived.Test.YtbjbjgfjaopibaaGreatDoorLv8
import Derived.Test.YtbjbjgfjaopibaaGreatDoorLv10
import Derived.Test.YtbjbjgfjaopibaaGreatDoorLv11
section
/- The document's texts: Text, ReadText. -/
namespace Go.Proofs.YtbjbjgfjaopibaaGreatDoor
open Go Go.RowKit
set_option linter.unusedSimpArgs false
set_option linter.unusedVariables false
set_option maxRecDepth 100000

set_option maxHeartbeats 1600000 in
theorem rtext (xs : List Int) (q : Option Addr) (c : Nat) (w : World) (hy : Lib.BytesIn w q xs.length xs) (hl : xs.length ≤ 140737488351232) :
    Calls Tryz.prog 71 #[.slice q xs.length c] w fun e w' => ∃ p c' o, e = .returned (.slice p (txtB xs).length c') ∧ Row w' 5 (.slice p (txtB xs).length c') (txtB xs) o ∧ (∀ g, o = some g → w.heap.size ≤ g) ∧ Below w.heap.size w w' := by
  obtain ⟨i0, hi, hz0, hz1, hz2⟩ := info_parts u8inf
  have HI := Lib.hid (And.intro hi (And.intro hz0 (And.intro hz1 (And.intro hz2 hy))))
  clear hi hz0 hz1 hz2 hy
  have PE := Lib.hid (renc xs.length (by omega) w)
  have hn9 := (encS_ne xs.length).2
  obtain ⟨n, hn⟩ : ∃ n, n = xs.length := ⟨_, rfl⟩
  rw [← hn] at PE hn9 hl ⊢
  have HN := Lib.hid hn
  clear hn
  go_enter Tryz.func71, Tryz.ntmps71
  go_wp2_with fail
  refine PE.out.mono ?_
  rintro e w1 ⟨p1, c1, o1, rfl, R1, ho1, hb1⟩
  have kb := Keep.of_below (X := fun _ => False) hb1
  have hy1 := bytes_keep HI.out.2.2.2.2 kb (fun _ _ _ h => h)
  obtain ⟨v2, w2, o2, run2, R2, ho2, k2⟩ := row_appendL (P := Tryz.prog) 22 22 i0 (.int .u8 0) Tryz.underlying22 HI.out.1 HI.out.2.1 HI.out.2.2.1 HI.out.2.2.2.1 rfl R1 (p := q) (c := c) (ys := xs) hy1 (by rw [← HN.out]; omega)
  have hst := own_step rfl hb1 ho1 ho2 k2
  have e2 : encS n ++ xs = txtB xs := by unfold txtB; rw [← HN.out]
  rw [e2] at R2
  rw [← HN.out] at run2
  have HF := Lib.hid (And.intro R2 hst)
  obtain ⟨p2, c2, rfl, _⟩ := R2.form
  clear R1 ho1 hb1 kb hy1 R2 ho2 k2 hst e2
  go_wp2_with (at_builtin; refine wpl_append rfl _ _ 22 rfl rfl rfl run2 ?_)
  go_ret
  exact ⟨p2, c2, o2, rfl, HF.out.1, HF.out.2.1, HF.out.2.2⟩
theorem decR_le : ∀ bs : List Int, (decR bs).length ≤ bs.length
  | [] => Nat.zero_le _
  | b :: r => by show (r.drop (decW b)).length ≤ _; rw [List.length_drop, List.length_cons]; omega
/-- what the document's ReadText answers -/
def RTxtPost (bs : List Int) (most : Nat) (w : World) (e : Ending) (w' : World) : Prop :=
  ∃ v1 v2 : Value, e = .returned (.tuple #[v1, v2, .int .i64 (rtE bs most)]) ∧ Below w.heap.size w w' ∧
    (rtE bs most = 0 → ∃ p n, n = (rtX bs).length ∧ v1 = .slice p n n ∧ RowOf w' (.slice p n n) p n (rtX bs) ∧ (∀ a, p = some a → w.heap.size ≤ a.block ∧ a.block < w'.heap.size) ∧ ∃ o2, Row w' 5 v2 (rtR bs) o2 ∧ ∀ g, o2 = some g → w.heap.size ≤ g)
theorem RTxtPost.err {bs : List Int} {most : Nat} {w w' : World} {E : Int} {v1 v2 : Value} (h : rtE bs most = E) (hE : E ≠ 0) (hb : Below w.heap.size w w') : RTxtPost bs most w (.returned (.tuple #[v1, v2, .int .i64 E])) w' :=
  ⟨_, _, by rw [h], hb, fun h0 => absurd (h.symm.trans h0) hE⟩
theorem rt_fin {bs : List Int} {M n c1 : Nat} {w w1 w2 : World} {p1 : Option Addr} {o1 o2 : Option Nat} {v2 : Value} (hrt : rtE bs M = 0) (hn : n = decN bs) (hb1 : Below w.heap.size w w1) (hb2 : Below w1.heap.size w1 w2) (R1 : Row w1 5 (.slice p1 (decR bs).length c1) (decR bs) o1) (ho1 : ∀ g, o1 = some g → w.heap.size ≤ g)
    (hbyt : Byt (decR bs)) (hnle : n ≤ (decR bs).length) (hl : (decR bs).length ≤ 140737488351232) (R2 : Row w2 5 v2 ((decR bs).drop n) o2) (ho2 : ∀ g, o2 = some g → w1.heap.size ≤ g) : RTxtPost bs M w (.returned (.tuple #[.slice p1 n n, v2, .int .i64 0])) w2 := by
  have hx : rtX bs = (decR bs).take n := by unfold rtX; rw [hn]
  have hxl : (rtX bs).length = n := by rw [hx, List.length_take]; exact Nat.min_eq_left hnle
  have hbl : Below w.heap.size w w2 := hb1.trans (hb2.mono hb1.size)
  obtain ⟨_, _, e1, hy, _, _, hcase⟩ := R1.form
  cases e1
  have hp : ∀ a, p1 = some a → w.heap.size ≤ a.block ∧ a.block < w2.heap.size := fun a ha => by
    rcases hcase with ⟨h, _⟩ | ⟨g, ho, h, hg⟩
    · rw [h] at ha; cases ha
    · rw [h] at ha; cases ha
      exact ⟨ho1 g ho, Nat.lt_of_lt_of_le hg hb2.size⟩
  refine ⟨_, _, by rw [hrt], hbl, fun _ => ⟨p1, n, hxl.symm, rfl, ⟨by rw [hxl], ?_, by omega, by omega, by omega, fun h => ?_, fun y hy => hbyt y (by rw [hx] at hy; exact List.mem_of_mem_take hy), fun a ha _ => (hp a ha).2⟩, hp, o2, ?_, fun g hg => Nat.le_trans hb1.size (ho2 g hg)⟩⟩
  · intro h0
    rw [hxl] at h0
    obtain ⟨b, o, e1, hc⟩ := hy.at (by omega)
    refine ⟨b, o, e1, fun i hi => ?_⟩
    rw [hxl] at hi
    have h1 := hc i (by omega)
    rw [(Keep.of_below (X := fun _ => False) hb2).cell (p := ⟨b, o + i, none⟩) (cell_lt h1) (fun h => h), h1, hx, List.getD_eq_getElem?_getD, List.getD_eq_getElem?_getD, List.getElem?_take_of_lt hi]
  · rcases hcase with ⟨_, h1, _⟩ | ⟨g, _, h1, _⟩
    · rw [h1] at hnle; simp at hnle; exact hnle
    · rw [h1] at h; cases h
  · have : rtR bs = (decR bs).drop n := by unfold rtR; rw [hn]
    rw [this]; exact R2
set_option maxHeartbeats 6400000 in
theorem rreadtext (bs : List Int) (M : Nat) (q : Option Addr) (c : Nat) (w : World) (hy : Lib.BytesIn w q bs.length bs) (hr : ∀ y ∈ bs, 0 ≤ y ∧ y ≤ 255) (hc : bs.length ≤ c) (hcm : c ≤ 9223372036854775807) (hl47 : bs.length ≤ 140737488351232) (hM : M ≤ 1000000) :
    Calls Tryz.prog 90 #[.slice q bs.length c, .int .i64 (M : Int)] w (RTxtPost bs M w) := by
  have PD := Lib.hid (rdecode bs q c w hy hr hc hcm (by omega))
  have hMm : max (M : Int) 0 = (M : Int) := by omega
  have hMu : IntKind.u64.wrap (M : Int) = (M : Int) := IntWalk.u64_in _ (by omega)
  have HR := Lib.hid (And.intro hr hl47)
  obtain ⟨bl, hbl⟩ : ∃ bl, bl = bs.length := ⟨_, rfl⟩
  rw [← hbl] at PD hc hl47 ⊢
  have HBL := Lib.hid hbl
  clear hbl hy hr
  go_enter Tryz.func90, Tryz.ntmps90
  go_wp2_with fail
  refine PD.out.mono ?_
  rintro e w1 ⟨x, v, rfl, hb1, hok, hbad⟩
  have HB := Lib.hid hb1
  clear hb1
  by_cases hE : decE bs = 0
  · obtain ⟨rfl, o1, R1, ho1⟩ := hok hE
    rw [hE]
    clear hok hbad
    obtain ⟨n, hn⟩ : ∃ n, n = decN bs := ⟨_, rfl⟩
    rw [← hn]
    have hn64 := (enc_dec (bs := bs) HR.out.1 hE).2
    rw [← hn] at hn64
    have hrl : (decR bs).length ≤ bs.length := decR_le bs
    obtain ⟨p1, c1, rfl, hy1, hc1, hcm1, hcase1⟩ := R1.form
    have hbyt : Byt (decR bs) := by
      have h := enc_dec (bs := bs) HR.out.1 hE
      have h2 : Byt bs := HR.out.1
      rw [h.1] at h2; exact h2.right
    have hRlt := R1.lt
    have hE' := hE
    have H1 := Lib.hid (And.intro hy1 (And.intro hbyt (And.intro hE' (And.intro hn (And.intro ho1 (And.intro R1 hrl))))))
    obtain ⟨rl, hrl2⟩ : ∃ rl, rl = (decR bs).length := ⟨_, rfl⟩
    rw [← hrl2] at hc1 ⊢
    have hrlb : rl ≤ 140737488351232 := by rw [hrl2]; have := HR.out.2; omega
    have HRL := Lib.hid hrl2
    replace hcm1 : c1 ≤ 9223372036854775807 := by unfold maxLen at hcm1; exact hcm1
    clear hy1 hbyt hE' hn R1 ho1 hrl hrl2 hRlt hcase1
    by_cases hM1 : M < n
    · have hF := RTxtPost.err (w := w) (w' := w1) (v1 := .slice none 0 0) (v2 := .slice none 0 0) (show rtE bs M = 4 from by unfold rtE; rw [if_pos hE, ← H1.out.2.2.2.1, if_pos hM1]) (by decide) HB.out
      have HF := Lib.hid hF
      have hlt : (M : Int) < (n : Int) := by omega
      clear hF hE
      go_wp2
      exact bodyPost_ret (results_tmp3 Tryz.results90 _ _ _) rfl HF.out
    · have hlt : ¬ (M : Int) < (n : Int) := by omega
      have hrlu : IntKind.u64.wrap (rl : Int) = (rl : Int) := IntWalk.u64_in _ (by omega)
      by_cases hM2 : rl < n
      · have hF := RTxtPost.err (w := w) (w' := w1) (v1 := .slice none 0 0) (v2 := .slice none 0 0) (show rtE bs M = 50 from by unfold rtE; rw [if_pos hE, ← H1.out.2.2.2.1, if_neg hM1, ← HRL.out, if_pos hM2]) (by decide) HB.out
        have HF := Lib.hid hF
        have hlt2 : (rl : Int) < (n : Int) := by omega
        clear hF hE
        go_wp2
        exact bodyPost_ret (results_tmp3 Tryz.results90 _ _ _) rfl HF.out
      · have hlt2 : ¬ (rl : Int) < (n : Int) := by omega
        have hrt : rtE bs M = 0 := by unfold rtE; rw [if_pos hE, ← H1.out.2.2.2.1, if_neg hM1, ← HRL.out, if_neg hM2]
        have HRT := Lib.hid hrt
        have hnle : n ≤ rl := by omega
        have hnc : n ≤ c1 := by omega
        have hrow := H1.out.2.2.2.2.2.1
        clear hrt hE
        rcases hrow.form with ⟨_, _, e1, _, _, _, hcase⟩
        cases e1
        rcases hcase with ⟨hp, hnil, hc0, ho0⟩ | ⟨g, ho, hp, hg⟩
        · have hr0 : rl = 0 := by rw [HRL.out, hnil]; rfl
          obtain rfl : n = 0 := by omega
          subst hp hc0 hr0
          clear hnil ho0 hrow
          have HT := Lib.hid (show ∀ w0 : World, Below w1.heap.size w1 w0 → _ from fun w0 hb => tail_run w1 w0 hb ((decR bs).drop 0) none 0 (by rw [List.length_drop, ← HRL.out]; intro h0; omega) (by rw [List.length_drop, ← HRL.out]; omega))
          rw [List.length_drop, ← HRL.out] at HT
          try simp only [Nat.sub_self] at HT
          go_upto_region 8 with fail
          refine wp_region_held_drew (S := fun w' => Below w1.heap.size w1 w') (by kernel_rfl) ((Below.refl _ _).drew) (fun hS => ?_)
          refine tkH 0 (v := ?_) rfl (by kernel_rfl) ⟨by rfl, ?_⟩ hS ?_
          rotate_left
          · intro w0 hs; clear hs; go_simp; try (with_reducible rfl)
          try simp only [Act.put, List.setIfInBounds_toArray, List.set_cons_zero, List.set_cons_succ]
          refine tkH 1 (v := ?_) rfl (by kernel_rfl) ⟨by rfl, ?_⟩ hS ?_
          rotate_left
          · intro w0 hs; clear hs; go_simp; try (with_reducible rfl)
          try simp only [Act.put, List.setIfInBounds_toArray, List.set_cons_zero, List.set_cons_succ]
          refine tkH 2 (v := ?_) rfl (by kernel_rfl) ⟨by rfl, ?_⟩ hS ?_
          rotate_left
          · intro w0 hs; clear hs; go_simp; try (with_reducible rfl)
          try simp only [Act.put, List.setIfInBounds_toArray, List.set_cons_zero, List.set_cons_succ]
          refine tkH 3 (v := ?_) rfl (by kernel_rfl) ⟨by rfl, ?_⟩ hS ?_
          rotate_left
          · intro w0 hs; clear hs; go_simp; try (with_reducible rfl)
          try simp only [Act.put, List.setIfInBounds_toArray, List.set_cons_zero, List.set_cons_succ]
          refine tkH 5 (v := ?_) rfl (by kernel_rfl) ⟨by rfl, ?_⟩ hS ?_
          rotate_left
          · intro w0 hs; clear hs; go_simp; try (with_reducible rfl)
          try simp only [Act.put, List.setIfInBounds_toArray, List.set_cons_zero, List.set_cons_succ]
          refine tkH 6 (v := ?_) rfl (by kernel_rfl) ⟨by rfl, ?_⟩ hS ?_
          rotate_left
          · intro w0 hs; clear hs; go_simp; try (with_reducible rfl)
          try simp only [Act.put, List.setIfInBounds_toArray, List.set_cons_zero, List.set_cons_succ]
          refine tkH 7 (v := ?_) rfl (by kernel_rfl) ⟨by rfl, ?_⟩ hS ?_
          rotate_left
          · intro w0 hs; clear hs; go_simp; try (with_reducible rfl)
          try simp only [Act.put, List.setIfInBounds_toArray, List.set_cons_zero, List.set_cons_succ]
          refine wpAnyH_ready (rs := [4]) (by kernel_rfl) (by simp) ?_
          refine AllReadyH.cons (o := ⟨_, _, _, _, _, _⟩) rfl (fun K hK => ?_) AllReadyH.nil
          rw [if_pos (by rfl)]
          go_simp
          obtain ⟨p2, c2, w2, o2, run2, R2, ho2, hb2⟩ := HT.out _ hS
          refine hK.out _ _ (hS.alloc hS.size _) (fun hS' => ?_)
          clear hS hK
          have hS := hS'; clear hS'
          try simp only [Act.put, List.setIfInBounds_toArray, List.set_cons_zero, List.set_cons_succ]
          refine wpAnyH_ready (rs := [8]) (by kernel_rfl) (by simp) ?_
          refine AllReadyH.cons (o := ⟨_, _, _, _, _, _⟩) rfl (fun K hK => ?_) AllReadyH.nil
          rw [if_pos (by rfl)]
          refine wp_appI _ _ 22 rfl rfl rfl run2 ?_
          refine hK.out _ _ hb2 (fun hS' => ?_)
          clear hS hK
          have hS := hS'; clear hS'
          try simp only [Act.put, List.setIfInBounds_toArray, List.set_cons_zero, List.set_cons_succ]
          refine tkH 9 (v := ?_) rfl (by kernel_rfl) ⟨by rfl, ?_⟩ hS ?_
          rotate_left
          · intro w0 hs; clear hs; go_simp; try (with_reducible rfl)
          try simp only [Act.put, List.setIfInBounds_toArray, List.set_cons_zero, List.set_cons_succ]
          refine tkH 10 (v := ?_) rfl (by kernel_rfl) ⟨by rfl, ?_⟩ hS ?_
          rotate_left
          · intro w0 hs; clear hs; go_simp; try (with_reducible rfl)
          try simp only [Act.put, List.setIfInBounds_toArray, List.set_cons_zero, List.set_cons_succ]
          refine tkH 11 (v := ?_) rfl (by kernel_rfl) ⟨by rfl, ?_⟩ hS ?_
          rotate_left
          · intro w0 hs; clear hs; go_simp; try (with_reducible rfl)
          try simp only [Act.put, List.setIfInBounds_toArray, List.set_cons_zero, List.set_cons_succ]
          refine wpAnyH_done (by kernel_rfl) ?_ _
          have HF := Lib.hid (And.intro R2 (And.intro ho2 hb2))
          clear R2 ho2 hb2 run2
          go_wp2
          exact bodyPost_ret (results_tmp3 Tryz.results90 _ _ _) rfl (rt_fin HRT.out H1.out.2.2.2.1 HB.out HF.out.2.2 H1.out.2.2.2.2.2.1 H1.out.2.2.2.2.1 H1.out.2.1 (by rw [← HRL.out]; exact hnle) (by rw [← HRL.out]; exact hrlb) HF.out.1 HF.out.2.1)
        · subst hp
          have hbt : ∀ i, i < rl - n → w1.cell? ⟨g, n + i, none⟩ = some (.int .u8 (((decR bs).drop n).getD i 0)) := fun i hi => by
            obtain ⟨b, o, e1, hc⟩ := H1.out.1.at (by rw [← HRL.out]; omega)
            cases e1
            rw [← Nat.zero_add (n + i), hc (n + i) (by rw [← HRL.out]; omega), List.getD_eq_getElem?_getD, List.getD_eq_getElem?_getD, List.getElem?_drop]
          have HBT := Lib.hid hbt
          clear hbt ho hrow
          by_cases hcn : c1 = n
          · have hrn : rl = n := by omega
            subst hcn
            subst hrn
            have HT := Lib.hid (show ∀ w0 : World, Below w1.heap.size w1 w0 → _ from fun w0 hb => tail_run w1 w0 hb ((decR bs).drop rl) (some ⟨g, 0, none⟩) 0 (by rw [List.length_drop, ← HRL.out]; intro h0; omega) (by rw [List.length_drop, ← HRL.out]; omega))
            rw [List.length_drop, ← HRL.out] at HT
            try simp only [Nat.sub_self] at HT
            go_upto_region 8 with fail
            refine wp_region_held_drew (S := fun w' => Below w1.heap.size w1 w') (by kernel_rfl) ((Below.refl _ _).drew) (fun hS => ?_)
            refine tkH 0 (v := ?_) rfl (by kernel_rfl) ⟨by rfl, ?_⟩ hS ?_
            rotate_left
            · intro w0 hs; clear hs; go_simp; try (with_reducible rfl)
            try simp only [Act.put, List.setIfInBounds_toArray, List.set_cons_zero, List.set_cons_succ]
            refine tkH 1 (v := ?_) rfl (by kernel_rfl) ⟨by rfl, ?_⟩ hS ?_
            rotate_left
            · intro w0 hs; clear hs; go_simp; try (with_reducible rfl)
            try simp only [Act.put, List.setIfInBounds_toArray, List.set_cons_zero, List.set_cons_succ]
            refine tkH 2 (v := ?_) rfl (by kernel_rfl) ⟨by rfl, ?_⟩ hS ?_
            rotate_left
            · intro w0 hs; clear hs; go_simp; try (with_reducible rfl)
            try simp only [Act.put, List.setIfInBounds_toArray, List.set_cons_zero, List.set_cons_succ]
            refine tkH 3 (v := ?_) rfl (by kernel_rfl) ⟨by rfl, ?_⟩ hS ?_
            rotate_left
            · intro w0 hs; clear hs; go_simp; try (with_reducible rfl)
            try simp only [Act.put, List.setIfInBounds_toArray, List.set_cons_zero, List.set_cons_succ]
            refine tkH 5 (v := ?_) rfl (by kernel_rfl) ⟨by rfl, ?_⟩ hS ?_
            rotate_left
            · intro w0 hs; clear hs; go_simp; try (with_reducible rfl)
            try simp only [Act.put, List.setIfInBounds_toArray, List.set_cons_zero, List.set_cons_succ]
            refine tkH 6 (v := ?_) rfl (by kernel_rfl) ⟨by rfl, ?_⟩ hS ?_
            rotate_left
            · intro w0 hs; clear hs; go_simp; try (with_reducible rfl)
            try simp only [Act.put, List.setIfInBounds_toArray, List.set_cons_zero, List.set_cons_succ]
            refine tkH 7 (v := ?_) rfl (by kernel_rfl) ⟨by rfl, ?_⟩ hS ?_
            rotate_left
            · intro w0 hs; clear hs; go_simp; try (with_reducible rfl)
            try simp only [Act.put, List.setIfInBounds_toArray, List.set_cons_zero, List.set_cons_succ]
            refine wpAnyH_ready (rs := [4]) (by kernel_rfl) (by simp) ?_
            refine AllReadyH.cons (o := ⟨_, _, _, _, _, _⟩) rfl (fun K hK => ?_) AllReadyH.nil
            rw [if_pos (by rfl)]
            go_simp
            obtain ⟨p2, c2, w2, o2, run2, R2, ho2, hb2⟩ := HT.out _ hS
            refine hK.out _ _ (hS.alloc hS.size _) (fun hS' => ?_)
            clear hS hK
            have hS := hS'; clear hS'
            try simp only [Act.put, List.setIfInBounds_toArray, List.set_cons_zero, List.set_cons_succ]
            refine wpAnyH_ready (rs := [8]) (by kernel_rfl) (by simp) ?_
            refine AllReadyH.cons (o := ⟨_, _, _, _, _, _⟩) rfl (fun K hK => ?_) AllReadyH.nil
            rw [if_pos (by rfl)]
            refine wp_appI _ _ 22 rfl rfl rfl run2 ?_
            refine hK.out _ _ hb2 (fun hS' => ?_)
            clear hS hK
            have hS := hS'; clear hS'
            try simp only [Act.put, List.setIfInBounds_toArray, List.set_cons_zero, List.set_cons_succ]
            refine tkH 9 (v := ?_) rfl (by kernel_rfl) ⟨by rfl, ?_⟩ hS ?_
            rotate_left
            · intro w0 hs; clear hs; go_simp; try (with_reducible rfl)
            try simp only [Act.put, List.setIfInBounds_toArray, List.set_cons_zero, List.set_cons_succ]
            refine tkH 10 (v := ?_) rfl (by kernel_rfl) ⟨by rfl, ?_⟩ hS ?_
            rotate_left
            · intro w0 hs; clear hs; go_simp; try (with_reducible rfl)
            try simp only [Act.put, List.setIfInBounds_toArray, List.set_cons_zero, List.set_cons_succ]
            refine tkH 11 (v := ?_) rfl (by kernel_rfl) ⟨by rfl, ?_⟩ hS ?_
            rotate_left
            · intro w0 hs; clear hs; go_simp; try (with_reducible rfl)
            try simp only [Act.put, List.setIfInBounds_toArray, List.set_cons_zero, List.set_cons_succ]
            refine wpAnyH_done (by kernel_rfl) ?_ _
            have HF := Lib.hid (And.intro R2 (And.intro ho2 hb2))
            clear R2 ho2 hb2 run2
            go_wp2
            exact bodyPost_ret (results_tmp3 Tryz.results90 _ _ _) rfl (rt_fin HRT.out H1.out.2.2.2.1 HB.out HF.out.2.2 H1.out.2.2.2.2.2.1 H1.out.2.2.2.2.1 H1.out.2.1 (by rw [← HRL.out]; exact hnle) (by rw [← HRL.out]; exact hrlb) HF.out.1 HF.out.2.1)
          · have hnc1 : n < c1 := by omega
            have HT := Lib.hid (show ∀ w0 : World, Below w1.heap.size w1 w0 → _ from fun w0 hb => tail_run w1 w0 hb ((decR bs).drop n) (some ⟨g, n, none⟩) (c1 - n) (by rw [List.length_drop, ← HRL.out]; intro h0; exact ⟨g, n, rfl, HBT.out⟩) (by rw [List.length_drop, ← HRL.out]; omega))
            rw [List.length_drop, ← HRL.out] at HT
            try simp only [Nat.sub_self] at HT
            go_upto_region 8 with fail
            refine wp_region_held_drew (S := fun w' => Below w1.heap.size w1 w') (by kernel_rfl) ((Below.refl _ _).drew) (fun hS => ?_)
            refine tkH 0 (v := ?_) rfl (by kernel_rfl) ⟨by rfl, ?_⟩ hS ?_
            rotate_left
            · intro w0 hs; clear hs; go_simp; try (with_reducible rfl)
            try simp only [Act.put, List.setIfInBounds_toArray, List.set_cons_zero, List.set_cons_succ]
            refine tkH 1 (v := ?_) rfl (by kernel_rfl) ⟨by rfl, ?_⟩ hS ?_
            rotate_left
            · intro w0 hs; clear hs; go_simp; try (with_reducible rfl)
            try simp only [Act.put, List.setIfInBounds_toArray, List.set_cons_zero, List.set_cons_succ]
            refine tkH 2 (v := ?_) rfl (by kernel_rfl) ⟨by rfl, ?_⟩ hS ?_
            rotate_left
            · intro w0 hs; clear hs; go_simp; try (with_reducible rfl)
            try simp only [Act.put, List.setIfInBounds_toArray, List.set_cons_zero, List.set_cons_succ]
            refine tkH 3 (v := ?_) rfl (by kernel_rfl) ⟨by rfl, ?_⟩ hS ?_
            rotate_left
            · intro w0 hs; clear hs; go_simp; try (with_reducible rfl)
            try simp only [Act.put, List.setIfInBounds_toArray, List.set_cons_zero, List.set_cons_succ]
            refine tkH 5 (v := ?_) rfl (by kernel_rfl) ⟨by rfl, ?_⟩ hS ?_
            rotate_left
            · intro w0 hs; clear hs; go_simp; try (with_reducible rfl)
            try simp only [Act.put, List.setIfInBounds_toArray, List.set_cons_zero, List.set_cons_succ]
            refine tkH 6 (v := ?_) rfl (by kernel_rfl) ⟨by rfl, ?_⟩ hS ?_
            rotate_left
            · intro w0 hs; clear hs; go_simp; try (with_reducible rfl)
            try simp only [Act.put, List.setIfInBounds_toArray, List.set_cons_zero, List.set_cons_succ]
            refine tkH 7 (v := ?_) rfl (by kernel_rfl) ⟨by rfl, ?_⟩ hS ?_
            rotate_left
            · intro w0 hs; clear hs; go_simp; try (with_reducible rfl)
            try simp only [Act.put, List.setIfInBounds_toArray, List.set_cons_zero, List.set_cons_succ]
            refine wpAnyH_ready (rs := [4]) (by kernel_rfl) (by simp) ?_
            refine AllReadyH.cons (o := ⟨_, _, _, _, _, _⟩) rfl (fun K hK => ?_) AllReadyH.nil
            rw [if_pos (by rfl)]
            go_simp
            obtain ⟨p2, c2, w2, o2, run2, R2, ho2, hb2⟩ := HT.out _ hS
            refine hK.out _ _ (hS.alloc hS.size _) (fun hS' => ?_)
            clear hS hK
            have hS := hS'; clear hS'
            try simp only [Act.put, List.setIfInBounds_toArray, List.set_cons_zero, List.set_cons_succ]
            refine wpAnyH_ready (rs := [8]) (by kernel_rfl) (by simp) ?_
            refine AllReadyH.cons (o := ⟨_, _, _, _, _, _⟩) rfl (fun K hK => ?_) AllReadyH.nil
            rw [if_pos (by rfl)]
            refine wp_appI _ _ 22 rfl rfl rfl run2 ?_
            refine hK.out _ _ hb2 (fun hS' => ?_)
            clear hS hK
            have hS := hS'; clear hS'
            try simp only [Act.put, List.setIfInBounds_toArray, List.set_cons_zero, List.set_cons_succ]
            refine tkH 9 (v := ?_) rfl (by kernel_rfl) ⟨by rfl, ?_⟩ hS ?_
            rotate_left
            · intro w0 hs; clear hs; go_simp; try (with_reducible rfl)
            try simp only [Act.put, List.setIfInBounds_toArray, List.set_cons_zero, List.set_cons_succ]
            refine tkH 10 (v := ?_) rfl (by kernel_rfl) ⟨by rfl, ?_⟩ hS ?_
            rotate_left
            · intro w0 hs; clear hs; go_simp; try (with_reducible rfl)
            try simp only [Act.put, List.setIfInBounds_toArray, List.set_cons_zero, List.set_cons_succ]
            refine tkH 11 (v := ?_) rfl (by kernel_rfl) ⟨by rfl, ?_⟩ hS ?_
            rotate_left
            · intro w0 hs; clear hs; go_simp; try (with_reducible rfl)
            try simp only [Act.put, List.setIfInBounds_toArray, List.set_cons_zero, List.set_cons_succ]
            refine wpAnyH_done (by kernel_rfl) ?_ _
            have HF := Lib.hid (And.intro R2 (And.intro ho2 hb2))
            clear R2 ho2 hb2 run2
            go_wp2
            exact bodyPost_ret (results_tmp3 Tryz.results90 _ _ _) rfl (rt_fin HRT.out H1.out.2.2.2.1 HB.out HF.out.2.2 H1.out.2.2.2.2.2.1 H1.out.2.2.2.2.1 H1.out.2.1 (by rw [← HRL.out]; exact hnle) (by rw [← HRL.out]; exact hrlb) HF.out.1 HF.out.2.1)
  · obtain ⟨rfl, rfl⟩ := hbad hE
    have hne : (decE bs == 0) = false := beq_false_of_ne hE
    have HF := Lib.hid (RTxtPost.err (w := w) (w' := w1) (v1 := .slice none 0 0) (v2 := .slice none 0 0) (show rtE bs M = decE bs from by unfold rtE; rw [if_neg hE]) hE HB.out)
    clear hok hbad hE
    generalize decE bs = E at *
    go_wp2
    exact bodyPost_ret (results_tmp3 Tryz.results90 _ _ _) rfl HF.out
end Go.Proofs.YtbjbjgfjaopibaaGreatDoor
end

section
/- The document's way to read a batch, plainly: it finds the same. -/
namespace Go.Proofs.YtbjbjgfjaopibaaGreatDoor
open Go Go.RowKit
set_option linter.unusedSimpArgs false
set_option linter.unusedVariables false
set_option maxRecDepth 100000

def rdT (bs : List Int) : Option (List Int × List Int) := if rtE bs 60000 = 0 then some (rtX bs, rtR bs) else none
theorem rdT_iff {bs : List Int} (hb : Byt bs) (z r : List Int) : rdT bs = some (z, r) ↔ (z.length ≤ 60000 ∧ Byt z) ∧ bs = txtB z ++ r := by
  constructor
  · intro h
    unfold rdT at h
    split at h
    · rename_i h1
      cases h
      obtain ⟨e, hl⟩ := enc_rt hb h1
      have hx : Byt (rtX bs) := by
        have : Byt (txtB (rtX bs) ++ rtR bs) := by rw [← e]; exact hb
        exact (this.left).right
      exact ⟨⟨hl, hx⟩, e⟩
    · cases h
  · rintro ⟨⟨h1, h2⟩, rfl⟩
    obtain ⟨e1, e2, e3⟩ := rt_enc (z := z) (r := r) (most := 60000) h1 (by omega)
    unfold rdT
    rw [if_pos e1, e2, e3]
def rdTs (each : Nat) (bs : List Int) : Option (List (List Int) × List Int) := (rdCnt bs).bind fun c => rdMany rdT (c.1 * each) c.2
def unp (l : List (Key × List Int)) : List (List Int) := l.flatMap fun p => [kb p.1, p.2]
def pairsOf : List (List Int) → List (Key × List Int)
  | y :: z :: t => (kOf y, z) :: pairsOf t
  | _ => []
theorem pairsOf_unp : ∀ l, pairsOf (unp l) = l
  | [] => rfl
  | p :: t => by
    show (kOf (kb p.1), p.2) :: pairsOf (unp t) = p :: t
    rw [kOf_kb, pairsOf_unp t]
theorem unp_len (l : List (Key × List Int)) : (unp l).length = l.length * 2 := by
  induction l with
  | nil => rfl
  | cons p t ih =>
    show (kb p.1 :: p.2 :: unp t).length = _
    rw [List.length_cons, List.length_cons, ih, List.length_cons]; omega
theorem unp_flat (l : List (Key × List Int)) : (unp l).flatMap txtB = l.flatMap putB := by
  induction l with
  | nil => rfl
  | cons p t ih =>
    show txtB (kb p.1) ++ (txtB p.2 ++ (unp t).flatMap txtB) = (txtB (kb p.1) ++ txtB p.2) ++ t.flatMap putB
    rw [ih, List.append_assoc]
theorem unp_pairs : ∀ (n : Nat) (l : List (List Int)), l.length = n * 2 → (∀ z ∈ l, Byt z) → unp (pairsOf l) = l ∧ (pairsOf l).length = n
  | 0, l, h, _ => by
    obtain rfl := List.eq_nil_of_length_eq_zero (by simpa using h)
    exact ⟨rfl, rfl⟩
  | n + 1, l, h, hb => by
    match l, h, hb with
    | [_], h, _ => exact absurd h (by rw [List.length_singleton]; omega)
    | y :: z :: t, h, hb =>
      obtain ⟨e1, e2⟩ := unp_pairs n t (by simp at h; omega) (fun w hw => hb w (List.mem_cons_of_mem _ (List.mem_cons_of_mem _ hw)))
      refine ⟨?_, by show (pairsOf t).length + 1 = _; rw [e2]⟩
      show kb (kOf y) :: z :: unp (pairsOf t) = _
      rw [kb_kOf (hb y (by simp)), e1]
theorem rdMT : ∀ (n : Nat) (bs : List Int), Byt bs → ∀ l r, rdMany rdT n bs = some (l, r) ↔ l.length = n ∧ (∀ z ∈ l, z.length ≤ 60000 ∧ Byt z) ∧ bs = l.flatMap txtB ++ r :=
  rdMany_iff (f := rdT) (ok := fun z => z.length ≤ 60000 ∧ Byt z) (enc := txtB) (fun bs hb z r => rdT_iff hb z r)
theorem rdTs_iff {each : Nat} {bs : List Int} (hb : Byt bs) (l : List (List Int)) (r : List Int) : rdTs each bs = some (l, r) ↔ ∃ n, n ≤ 20000 ∧ l.length = n * each ∧ (∀ z ∈ l, z.length ≤ 60000 ∧ Byt z) ∧ bs = encS n ++ (l.flatMap txtB ++ r) := by
  constructor
  · intro h
    unfold rdTs at h
    cases h1 : rdCnt bs with
    | none => rw [h1] at h; cases h
    | some c =>
      obtain ⟨n, b1⟩ := c
      obtain ⟨n1, e1⟩ := (rdCnt_iff hb n b1).1 h1
      have hb1 : Byt b1 := by rw [e1] at hb; exact hb.right
      rw [h1] at h; simp only [Option.bind_some] at h
      obtain ⟨k1, k2, k3⟩ := (rdMT _ b1 hb1 l r).1 h
      exact ⟨n, n1, k1, k2, by rw [← k3]; exact e1⟩
  · rintro ⟨n, h1, h2, h3, rfl⟩
    unfold rdTs
    rw [(rdCnt_iff hb n _).2 ⟨h1, rfl⟩]
    simp only [Option.bind_some]
    exact (rdMT _ _ hb.right l r).2 ⟨h2, h3, rfl⟩
/-- what the texts of a batch's bytes say -/
def docX (p d : List (List Int)) : BatD := ⟨pairsOf p, d.map kOf⟩
/-- the document's parse says yes just where rdBat does -/
theorem doc_yes {bs : List Int} (hb : Byt bs) (hl : bs.length ≤ 1048576) {p d : List (List Int)} {b2 : List Int} (h1 : rdTs 2 bs = some (p, b2)) (h2 : rdTs 1 b2 = some (d, [])) (hc : CanB (docX p d)) : rdBat bs = some (docX p d) := by
  obtain ⟨n, n1, n2, n3, e1⟩ := (rdTs_iff hb p b2).1 h1
  have hb2 : Byt b2 := by rw [e1] at hb; exact hb.right.right
  obtain ⟨m, m1, m2, m3, e2⟩ := (rdTs_iff hb2 d []).1 h2
  obtain ⟨u1, u2⟩ := unp_pairs n p n2 (fun z hz => (n3 z hz).2)
  refine (rdBat_iff hb hl _).2 ⟨hc, fun q hq => ?_, ?_⟩
  · have hq' : q.2 ∈ unp (pairsOf p) := List.mem_flatMap.2 ⟨q, hq, by simp⟩
    rw [u1] at hq'
    exact (n3 _ hq').2
  · show encS (pairsOf p).length ++ ((pairsOf p).flatMap putB ++ (encS (d.map kOf).length ++ (d.map kOf).flatMap delB)) = bs
    have hd : (d.map kOf).flatMap delB = d.flatMap txtB := by
      rw [List.flatMap_map]
      have : ∀ l : List (List Int), (∀ z ∈ l, Byt z) → l.flatMap (fun z => delB (kOf z)) = l.flatMap txtB := fun l hl => by
        induction l with
        | nil => rfl
        | cons z t ih =>
          rw [List.flatMap_cons, List.flatMap_cons, ih (fun w hw => hl w (List.mem_cons_of_mem _ hw))]
          show txtB (kb (kOf z)) ++ _ = _
          rw [kb_kOf (hl z (by simp))]
      exact this d (fun z hz => (m3 z hz).2)
    rw [u2, ← unp_flat, u1, List.length_map, hd, e1, e2, show d.length = m from by rw [m2, Nat.mul_one], List.append_nil]
theorem doc_of {bs : List Int} (hb : Byt bs) (hl : bs.length ≤ 1048576) {x : BatD} (h : rdBat bs = some x) : ∃ b2, rdTs 2 bs = some (unp x.puts, b2) ∧ rdTs 1 b2 = some (x.dels.map kb, []) ∧ docX (unp x.puts) (x.dels.map kb) = x ∧ CanB x := by
  obtain ⟨hc, hv, rfl⟩ := (rdBat_iff hb hl x).1 h
  have hd : (x.dels.map kb).flatMap txtB = x.dels.flatMap delB := by rw [List.flatMap_map]; rfl
  have e : batB x = encS x.puts.length ++ ((unp x.puts).flatMap txtB ++ (encS x.dels.length ++ ((x.dels.map kb).flatMap txtB ++ []))) := by
    rw [unp_flat, hd, List.append_nil]; rfl
  have hb2 : Byt (encS x.dels.length ++ ((x.dels.map kb).flatMap txtB ++ [])) := by rw [e] at hb; exact hb.right.right
  refine ⟨_, (rdTs_iff hb _ _).2 ⟨x.puts.length, hc.puts, unp_len _, fun z hz => ?_, e⟩, (rdTs_iff hb2 _ _).2 ⟨x.dels.length, hc.dels, by rw [List.length_map, Nat.mul_one], fun z hz => ?_, rfl⟩, ?_, hc⟩
  · obtain ⟨q, hq, hz'⟩ := List.mem_flatMap.1 hz
    have hf := finePut_iff.1 (hc.fineP q hq)
    simp only [List.mem_cons, List.not_mem_nil, or_false] at hz'
    rcases hz' with rfl | rfl
    · exact ⟨by rw [kb_len]; have := hf.1.2; omega, kb_byt _⟩
    · exact ⟨hf.2, hv q hq⟩
  · obtain ⟨k, hk, rfl⟩ := List.mem_map.1 hz
    have hf := fineK_iff.1 (hc.fineD k hk)
    exact ⟨by rw [kb_len]; omega, kb_byt _⟩
  · unfold docX
    rw [pairsOf_unp, List.map_map]
    have : (kOf ∘ kb) = id := by funext k; exact kOf_kb k
    rw [this, List.map_id]
end Go.Proofs.YtbjbjgfjaopibaaGreatDoor
end

section
/- The document's texts: a count and so many texts. -/
namespace Go.Proofs.YtbjbjgfjaopibaaGreatDoor
open Go Go.RowKit
set_option linter.unusedSimpArgs false
set_option linter.unusedVariables false
set_option maxRecDepth 100000

theorem rowInf : (Tryz.prog.info? 22).map (fun i => (i.zero.map fun z => z.cells.size, i.size, i.bytes)) = some (some 1, 1, 24) := by kernel_rfl
/-- what 'texts' answers -/
def RTsPost (bs : List Int) (each : Nat) (w : World) (e : Ending) (w' : World) : Prop :=
  ∃ v1 v2 : Value, ∃ b : Bool, e = .returned (.tuple #[v1, v2, .bool b]) ∧ Below w.heap.size w w' ∧
    ((rdTs each bs = none ∧ b = false) ∨ ∃ X r o, rdTs each bs = some (X.map RwD.z, r) ∧ b = true ∧ LstAt rwK 22 w' w.heap.size v1 X ∧ Row w' 5 v2 r o ∧ (∀ g, o = some g → w.heap.size ≤ g) ∧ (∃ q2 c2, v2 = .slice q2 r.length c2) ∧ Byt r ∧ r.length ≤ bs.length)
theorem rtR_le {bs : List Int} : (rtR bs).length ≤ bs.length := by
  unfold rtR
  rw [List.length_drop]
  have := decR_le bs
  omega
set_option maxHeartbeats 6400000 in
theorem rtexts (bs : List Int) (each : Nat) (q : Option Addr) (c : Nat) (w : World) (hy : Lib.BytesIn w q bs.length bs) (hr : Byt bs) (hc : bs.length ≤ c) (hcm : c ≤ 9223372036854775807) (hl47 : bs.length ≤ 140737488351232) (he : each ≤ 2) :
    Calls Tryz.prog 81 #[.slice q bs.length c, .int .i64 (each : Int)] w (RTsPost bs each w) := by
  have PD := Lib.hid (rdecode bs q c w hy hr hc hcm (by omega))
  have HR := Lib.hid (And.intro hr hl47)
  obtain ⟨bl, hbl⟩ : ∃ bl, bl = bs.length := ⟨_, rfl⟩
  rw [← hbl] at PD hc hl47 ⊢
  have HBL := Lib.hid hbl
  clear hbl hy hr
  go_enter Tryz.func81, Tryz.ntmps81
  go_wp2_with fail
  refine PD.out.mono ?_
  rintro e w1 ⟨x, v, rfl, hb1, hok, hbad⟩
  have HB := Lib.hid hb1
  clear hb1
  by_cases hE : decE bs = 0
  · obtain ⟨rfl, o1, R1, ho1⟩ := hok hE
    rw [hE]
    clear hok hbad
    obtain ⟨n, hn⟩ : ∃ n, n = decN bs := ⟨_, rfl⟩
    rw [← hn]
    have hn64 := (enc_dec (bs := bs) HR.out.1 hE).2
    rw [← hn] at hn64
    have hbyt : Byt (decR bs) := by
      have h := enc_dec (bs := bs) HR.out.1 hE
      have h2 : Byt bs := HR.out.1
      rw [h.1] at h2; exact h2.right
    by_cases hn2 : n ≤ 20000
    · have hcnt : rdTs each bs = rdMany rdT (n * each) (decR bs) := by
        unfold rdTs rdCnt
        rw [if_pos ⟨hE, by rw [← hn]; exact hn2⟩, ← hn]; rfl
      obtain ⟨N, hN⟩ : ∃ N, N = n * each := ⟨_, rfl⟩
      have hN4 : N ≤ 40000 := by rw [hN]; exact Nat.mul_le_mul hn2 he
      have hni : IntKind.i64.wrap (n : Int) = (n : Int) := by rw [IntKind.wrap_i64]; omega
      have hnm : (n : Int) * (each : Int) = (N : Int) := by rw [hN, Int.natCast_mul]
      have hgt : ¬ (20000 : Int) < (n : Int) := by omega
      obtain ⟨p1, c1, rfl, _⟩ := R1.form
      have H1 := Lib.hid (And.intro R1 (And.intro ho1 (And.intro hbyt (And.intro (hN ▸ hcnt) (decR_le bs)))))
      clear R1 ho1 hbyt hcnt hN hn hE
      obtain ⟨rl, hrl⟩ : ∃ rl, rl = (decR bs).length := ⟨_, rfl⟩
      rw [← hrl]
      have HRL := Lib.hid hrl
      clear hrl
      go_wp2
      go_loopg [0, 9, 29] N (fun gh v0 v9 i wx => ∃ (k : Nat) (X : List RwD) (left : List Int) (o : Option Nat) (q0 : Option Addr) (ll c0 : Nat) (o9 : Option Nat), k ≤ N ∧ v0 = .slice q0 ll c0 ∧ i = .int .i64 (k : Int) ∧ gh = N - k ∧ Hid (Row wx 5 (.slice q0 ll c0) left o ∧ (∀ g, o = some g → w.heap.size ≤ g) ∧ Byt left ∧ left.length ≤ bs.length ∧ LstO rwK 22 wx w.heap.size o9 v9 X ∧ Below w.heap.size w wx ∧ rdTs each bs = (rdMany rdT (N - k) left).map (fun t => (X.map RwD.z ++ t.1, t.2)) ∧ ll = left.length ∧ X.length = k))
      case atStart => exact ⟨0, [], decR bs, o1, p1, rl, c1, none, Nat.zero_le _, rfl, rfl, rfl, by rw [HRL.out]; exact H1.out.1, H1.out.2.1, H1.out.2.2.1, H1.out.2.2.2.2, LstO.nil _ _ _ _, HB.out, by rw [H1.out.2.2.2.1]; cases rdMany rdT (N - 0) (decR bs) <;> rfl, HRL.out, rfl⟩
      case round =>
        obtain ⟨k, X, left, o, q0, ll, c0, o9, hk, rfl, rfl, hg, HK⟩ := hrel
        have HG := Lib.hid hg
        clear hg
        have hrow := HK.out.1
        rw [HK.out.2.2.2.2.2.2.2.1] at hrow
        by_cases hlt : k < N
        · obtain ⟨_, _, e1, hyl, hcl, hcm2, _⟩ := hrow.form
          cases e1
          have PT := rreadtext left 60000 q0 c0 wr hyl HK.out.2.2.1 hcl (by unfold maxLen at hcm2; exact hcm2) (by have h1 := HK.out.2.2.2.1; have h2 := HR.out.2; omega) (by decide)
          rw [← HK.out.2.2.2.2.2.2.2.1] at PT
          change Calls Tryz.prog 90 #[.slice q0 ll c0, .int .i64 60000] wr _ at PT
          have PT := Lib.hid PT
          clear hrow hyl hcl hcm2
          have hv9 : ∃ q9 n9 c9, u9 = .slice q9 n9 c9 ∧ n9 = X.length := by
            obtain ⟨h9, _⟩ := HK.out.2.2.2.2.1
            obtain ⟨q9, c9, e9, _⟩ := h9.form
            exact ⟨q9, _, c9, e9, rfl⟩
          obtain ⟨q9, n9, c9, rfl, hn9⟩ := hv9
          have HN9 := Lib.hid hn9
          clear hn9
          go_wp2_with fail
          refine PT.out.mono ?_
          rintro e w5 ⟨v1, v2, rfl, hb5, himp⟩
          obtain ⟨m, hm⟩ : ∃ m, N - k = m + 1 := ⟨N - k - 1, by omega⟩
          by_cases hT : rtE left 60000 = 0
          · obtain ⟨p5, n5, hn5, rfl, hRO, hpp, o2, R2, ho2⟩ := himp hT
            obtain ⟨q2, c2, rfl, _⟩ := R2.form
            obtain ⟨hx1, hx2⟩ := enc_rt HK.out.2.2.1 hT
            have hbytr : Byt (rtR left) := by have h := HK.out.2.2.1; rw [hx1] at h; exact h.right
            have hstep : rdTs each bs = (rdMany rdT m (rtR left)).map (fun t => ((X ++ [(⟨p5, n5, rtX left⟩ : RwD)]).map RwD.z ++ t.1, t.2)) := by
              rw [HK.out.2.2.2.2.2.2.1, hm]
              show (((rdT left).bind fun q => (rdMany rdT m q.2).map fun t => (q.1 :: t.1, t.2))).map _ = _
              have hrd : rdT left = some (rtX left, rtR left) := by unfold rdT; rw [if_pos hT]
              rw [hrd]
              show ((rdMany rdT m (rtR left)).map fun t => (rtX left :: t.1, t.2)).map _ = _
              rw [Option.map_map]
              cases rdMany rdT m (rtR left) with
              | none => rfl
              | some t => simp [List.map_append]
            have hbw : Below w.heap.size w w5 := HK.out.2.2.2.2.2.1.trans (hb5.mono HK.out.2.2.2.2.2.1.size)
            have hx5 : rwK.at' (fun b => w.heap.size ≤ b ∧ b < w5.heap.size ∧ o9 ≠ some b) w5 (⟨p5, n5, rtX left⟩ : RwD) := ⟨⟨by show RowOf w5 (.slice p5 (rtX left).length n5) p5 n5 (rtX left); rw [← hn5]; exact hRO, by show (rtX left).length ≤ 1048576; omega⟩, fun a ha => ⟨Nat.le_trans HK.out.2.2.2.2.2.1.size (hpp a ha).1, (hpp a ha).2, fun e => by have h1 := HK.out.2.2.2.2.1.lt _ e; have h2 := (hpp a ha).1; omega⟩⟩
            obtain ⟨i1, z1, f1, f2, f3, f4, f5⟩ := info_ofJ rowInf
            have hL5 := HK.out.2.2.2.2.1.more hb5
            obtain ⟨q8, n8, v7, w7, o7, hv8, run7, L7, k7, ho7⟩ := hL5.add 84 Tryz.underlying84 f1 f2 f3 f4 f5 (by decide) hbw.size hx5 (by rw [HK.out.2.2.2.2.2.2.2.2]; unfold maxLen; omega) (by rw [HK.out.2.2.2.2.2.2.2.2]; omega)
            clear hv8 q8 n8
            change (Builtin.append_ #[84, 84] 84 #[.slice q9 n9 c9, .slice (some ⟨w5.heap.size, 0, none⟩) 1 1]).run Tryz.prog (w5.alloc (.cells #[.slice p5 (rtX left).length n5] 22)) = .ok v7 w7 at run7
            rw [← hn5] at run7
            have hk7 : Row w7 5 (.slice q2 (rtR left).length c2) (rtR left) o2 := R2.keep k7 (fun g hg e => by have h1 := ho2 g hg; have h2 := HK.out.2.2.2.2.1.lt g e; omega)
            have H7 := Lib.hid (And.intro hk7 (And.intro (show ∀ g, o2 = some g → w.heap.size ≤ g from fun g hg => Nat.le_trans HK.out.2.2.2.2.2.1.size (ho2 g hg)) (And.intro hbytr (And.intro (Nat.le_trans (rtR_le (bs := left)) HK.out.2.2.2.1) (And.intro L7 (And.intro (hbw.trans (k7.below hbw.size (fun g hg => HK.out.2.2.2.2.1.2.1 g hg))) (And.intro (show N - (k + 1) = m from by rw [Nat.sub_add_eq, hm]; rfl) hstep)))))))
            have HTT := Lib.hid hT
            obtain ⟨l2, hl2⟩ : ∃ l2, l2 = (rtR left).length := ⟨_, rfl⟩
            rw [hT, ← hl2]
            have HL2 := Lib.hid hl2
            clear hk7 R2 ho2 ho7 hbytr L7 k7 hbw hstep hx1 hx2 hRO hpp hx5 hL5 himp hT hb5 f1 f2 f3 f4 f5 hl2 hm PT hn5
            go_wp2_with (at_builtin; refine wpl_append rfl _ _ 84 rfl rfl rfl run7 ?_)
            go_roundg (N - (k + 1))
            case measure => rw [HG.out]; omega
            case rel => exact ⟨k + 1, X ++ [⟨p5, n5, rtX left⟩], rtR left, o2, q2, l2, c2, o7, hlt, rfl, by go_num, rfl, by rw [HL2.out]; exact H7.out.1, H7.out.2.1, H7.out.2.2.1, H7.out.2.2.2.1, H7.out.2.2.2.2.1, H7.out.2.2.2.2.2.1, by rw [H7.out.2.2.2.2.2.2.1]; exact H7.out.2.2.2.2.2.2.2, HL2.out, by rw [List.length_append, HK.out.2.2.2.2.2.2.2.2]; rfl⟩
          · have hF : RTsPost bs each w (.returned (.tuple #[.slice none 0 0, .slice none 0 0, .bool false])) w5 := ⟨_, _, false, rfl, HK.out.2.2.2.2.2.1.trans (hb5.mono HK.out.2.2.2.2.2.1.size), .inl ⟨by
              rw [HK.out.2.2.2.2.2.2.1, hm]
              show (((rdT left).bind fun q => (rdMany rdT m q.2).map fun t => (q.1 :: t.1, t.2))).map _ = _
              have hrd : rdT left = none := by unfold rdT; rw [if_neg hT]
              rw [hrd]; rfl, rfl⟩⟩
            have HF := Lib.hid hF
            clear hF himp hm hb5 PT
            generalize rtE left 60000 = E at *
            go_wp2
            exact bodyPost_ret (results_tmp3 Tryz.results81 _ _ _) rfl HF.out
        · obtain rfl : k = N := by omega
          have hv9 : ∃ q9 n9 c9, u9 = .slice q9 n9 c9 ∧ n9 = X.length := by
            obtain ⟨h9, _⟩ := HK.out.2.2.2.2.1
            obtain ⟨q9, c9, e9, _⟩ := h9.form
            exact ⟨q9, _, c9, e9, rfl⟩
          have hF : RTsPost bs each w (.returned (.tuple #[u9, .slice q0 ll c0, .bool true])) wr := ⟨_, _, true, rfl, HK.out.2.2.2.2.2.1, .inr ⟨X, left, o, by rw [HK.out.2.2.2.2.2.2.1, Nat.sub_self]; show some (X.map RwD.z ++ [], left) = _; rw [List.append_nil], rfl, HK.out.2.2.2.2.1.lst, HK.out.1, HK.out.2.1, ⟨q0, c0, by rw [HK.out.2.2.2.2.2.2.2.1]⟩, HK.out.2.2.1, HK.out.2.2.2.1⟩⟩
          have HF := Lib.hid hF
          clear hF hrow hv9
          go_wp2
          exact bodyPost_ret (results_tmp3 Tryz.results81 _ _ _) rfl HF.out
    · have hF : RTsPost bs each w (.returned (.tuple #[.slice none 0 0, .slice none 0 0, .bool false])) w1 := ⟨_, _, false, rfl, HB.out, .inl ⟨by unfold rdTs rdCnt; rw [if_neg (by rw [← hn]; exact fun h => hn2 h.2)]; rfl, rfl⟩⟩
      have HF := Lib.hid hF
      have hgt : (20000 : Int) < (n : Int) := by omega
      have hgn : 20000 < n := by omega
      have hgd : decide ((20000 : Int) < (n : Int)) = true := decide_eq_true hgt
      clear hn2
      obtain ⟨p1, c1, rfl, _⟩ := R1.form
      clear hF R1 ho1 hbyt hE hn
      generalize (decR bs).length = rl at *
      go_wp2
      exact bodyPost_ret (results_tmp3 Tryz.results81 _ _ _) rfl HF.out
  · obtain ⟨rfl, rfl⟩ := hbad hE
    have hne : (decE bs == 0) = false := beq_false_of_ne hE
    have hF : RTsPost bs each w (.returned (.tuple #[.slice none 0 0, .slice none 0 0, .bool false])) w1 := ⟨_, _, false, rfl, HB.out, .inl ⟨by unfold rdTs rdCnt; rw [if_neg (fun h => hE h.1)]; rfl, rfl⟩⟩
    have HF := Lib.hid hF
    clear hok hbad hF
    generalize decE bs = E at *
    go_wp2
    exact bodyPost_ret (results_tmp3 Tryz.results81 _ _ _) rfl HF.out
end Go.Proofs.YtbjbjgfjaopibaaGreatDoor
end
