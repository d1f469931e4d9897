/- The walks of layer 18: rows of hashes; slices.Index, Contains, Equal on them. -/
import Derived.Test.YtgedpgdefafofaaVotesD
namespace Go.Proofs.Ytgedpgdefafofaa
open Go Go.RowKit
set_option linter.unusedSimpArgs false

/-- the cells of hashes in a row -/
def hcat (hs : List Nat) : List Value := hs.flatMap hls
theorem hcat_length (hs : List Nat) : (hcat hs).length = hs.length * 32 := by
  induction hs with
  | nil => rfl
  | cons h r ih =>
    have e : hcat (h :: r) = hls h ++ hcat r := by simp [hcat]
    rw [e, List.length_append, ih, hls_length, List.length_cons]; omega
theorem hcat_append (a b : List Nat) : hcat (a ++ b) = hcat a ++ hcat b := by simp [hcat]
theorem hcat_get : ∀ (hs : List Nat) (i j : Nat), i < hs.length → j < 32 → (hcat hs)[i * 32 + j]? = (hls (hs.getD i 0))[j]?
  | [], i, j, hi, _ => by simp at hi
  | h :: r, 0, j, _, hj => by
    have e : hcat (h :: r) = hls h ++ hcat r := by simp [hcat]
    rw [e, Nat.zero_mul, Nat.zero_add, List.getElem?_append_left (by rw [hls_length]; exact hj)]; rfl
  | h :: r, i + 1, j, hi, hj => by
    have e : hcat (h :: r) = hls h ++ hcat r := by simp [hcat]
    rw [e, List.getElem?_append_right (by rw [hls_length]; omega), hls_length, show (i + 1) * 32 + j - 32 = i * 32 + j from by omega, hcat_get r i j (by simpa using hi) hj]
    simp
/-- hashes in memory -/
def HsIn (w : World) (q : Option Addr) (n : Nat) (hs : List Nat) : Prop := hs.length = n ∧ ∀ i, i < n → ∃ g, q = some ⟨g, 0, none⟩ ∧ g < w.heap.size ∧ w.rangeAt g (i * 32) (hls (hs.getD i 0)) ∧ hs.getD i 0 < W256
theorem HsIn.below {w w' : World} {q : Option Addr} {n : Nat} {hs : List Nat} (h : HsIn w q n hs) (hb : Below w.heap.size w w') : HsIn w' q n hs := ⟨h.1, fun i hi => by
  obtain ⟨g, h1, h2, h3, h4⟩ := h.2 i hi
  exact ⟨g, h1, Nat.lt_of_lt_of_le h2 hb.size, fun j v hv => (hb.cell (p := ⟨g, _, none⟩) h2).trans (h3 j v hv), h4⟩⟩
theorem HsIn.of_row {w : World} {v : Value} {n : Nat} {hs : List Nat} {o : Option Nat} (h : RowV w 26 32 v n (hcat hs) o) (hw : ∀ x ∈ hs, x < W256) : ∃ q c, v = .slice q n c ∧ HsIn w q n hs := by
  have hl : hs.length = n := by have := h.1; rw [hcat_length] at this; omega
  obtain ⟨q, c, rfl, _⟩ := h.form
  refine ⟨q, c, rfl, hl, fun i hi => ?_⟩
  obtain ⟨g, cap, _, e, _, _, hg, hc, _⟩ := h.mem (by omega)
  have e1 : q = some ⟨g, 0, none⟩ := by injection e
  refine ⟨g, e1, hg, fun j v hv => ?_, ?_⟩
  · have hj : j < 32 := by have := (List.getElem?_eq_some_iff.1 hv).1; rwa [hls_length] at this
    rw [hc _ (by omega), hcat_get hs i j (by omega) hj, hv]
  · rw [List.getD_eq_getElem?_getD, List.getElem?_eq_getElem (by omega)]
    exact hw _ (List.getElem_mem _)
set_option maxHeartbeats 1600000 in
theorem hindex (q : Option Addr) (n c : Nat) (hs : List Nat) (h : Nat) (w : World) (hh : HsIn w q n hs) (hw : h < W256) (hn : n ≤ 1000000) :
    Calls Try.prog 23 #[.slice q n c, hv h] w fun e w' => ∃ r : Int, e = .returned (.int .i64 r) ∧ (0 ≤ r ↔ h ∈ hs) ∧ Below w.heap.size w w' := by
  have H0 := Lib.hid (hh.below ((Below.refl w.heap.size w).alloc (Nat.le_refl _) (.cells (hcs h) 26)))
  have B0 := Lib.hid (Blk.new w (hcs h) 26)
  have K0 := Lib.hid ((Below.refl w.heap.size w).alloc (Nat.le_refl _) (.cells (hcs h) 26))
  have hLen := hh.1
  have HL := Lib.hid hLen
  clear hh hLen
  have LDI := hashInfo
  go_enter Try.func23, Try.ntmps23
  go_upto_region 1 with fail
  generalize w.alloc (.cells (hcs h) 26) = w0 at *
  generalize hgw : w.heap.size = G at *
  go_wp2
  go_loopg [8] n (fun gh i wx => ∃ k : Nat, k ≤ n ∧ i = .int .i64 (k : Int) ∧ gh = n - k ∧ Hid (Below w0.heap.size w0 wx ∧ ∀ j, j < k → hs.getD j 0 ≠ h))
  case atStart => exact ⟨0, Nat.zero_le _, rfl, rfl, Below.refl _ _, fun j hj => absurd hj (Nat.not_lt_zero _)⟩
  case round =>
    obtain ⟨k, hk, rfl, hg, HM⟩ := hrel
    have HG := Lib.hid hg
    clear hg
    by_cases hlt : k < n
    · obtain ⟨g, rfl, hgl, hr, hx⟩ := (H0.out.below HM.out.1).2 k hlt
      have LD1 : wr.drew.rangeAt G 0 (hls h) := blk_range ((B0.out.beyond HM.out.1).drew)
      have LD2 : wr.drew.rangeAt g (k * 32) (hls (hs.getD k 0)) := hr
      have HX := Lib.hid hx
      have heq := fun w' => heql h (hs.getD k 0) hw hx w'
      generalize hxk : hs.getD k 0 = xk at *
      have HXK := Lib.hid hxk
      clear hr hx hxk
      have hk63 : k ≤ 1000000 := by omega
      go_upto_region 4 with fail
      refine wp_region_held_drew (S := fun w' => w' = wr.drew) (by kernel_rfl) rfl (fun hS => ?_)
      refine wpAnyH_take (i := 0) (oi := ⟨_, _, _, _, _, _⟩) (v := hv h) rfl (by kernel_rfl) (by kernel_rfl) (by kernel_rfl) (fun _ _ _ h => h) (yieldsIf_load_mid (by rfl) 26 (.tmp 3) rfl G 0 rfl (hls h) (.array 32 5) (fun _ hs => hs ▸ LD1) Try.underlying26 rfl LDI) hS ?_
      try simp only [Act.put, List.setIfInBounds_toArray, List.set_cons_zero, List.set_cons_succ]
      refine wpAnyH_take (i := 1) (oi := ⟨_, _, _, _, _, _⟩) (v := ?_) rfl (by kernel_rfl) (by kernel_rfl) (by kernel_rfl) (fun _ _ _ h => h) (Or.inl ⟨by rfl, ?_⟩) hS ?_
      rotate_left
      · intro w0 hs; subst hs; go_simp; try (with_reducible rfl)
      try simp only [Act.put, List.setIfInBounds_toArray, List.set_cons_zero, List.set_cons_succ]
      refine wpAnyH_take (i := 2) (oi := ⟨_, _, _, _, _, _⟩) (v := ?_) rfl (by kernel_rfl) (by kernel_rfl) (by kernel_rfl) (fun _ _ _ h => h) (Or.inl ⟨by rfl, ?_⟩) hS ?_
      rotate_left
      · intro w0 hs; subst hs; go_simp; try (with_reducible rfl)
      try simp only [Act.put, List.setIfInBounds_toArray, List.set_cons_zero, List.set_cons_succ]
      refine wpAnyH_take (i := 3) (oi := ⟨_, _, _, _, _, _⟩) (v := ?_) rfl (by kernel_rfl) (by kernel_rfl) (by kernel_rfl) (fun _ _ _ h => h) (Or.inl ⟨by rfl, ?_⟩) hS ?_
      rotate_left
      · intro w0 hs; subst hs; go_simp; try (with_reducible rfl)
      try simp only [Act.put, List.setIfInBounds_toArray, List.set_cons_zero, List.set_cons_succ]
      refine wpAnyH_take (i := 4) (oi := ⟨_, _, _, _, _, _⟩) (v := hv xk) rfl (by kernel_rfl) (by kernel_rfl) (by kernel_rfl) (fun _ _ _ h => h) (yieldsIf_load_mid (by rfl) 26 (.tmp 14) rfl g (k * 32) rfl (hls xk) (.array 32 5) (fun _ hs => hs ▸ LD2) Try.underlying26 rfl LDI) hS ?_
      try simp only [Act.put, List.setIfInBounds_toArray, List.set_cons_zero, List.set_cons_succ]
      refine wpAnyH_take (i := 5) (oi := ⟨_, _, _, _, _, _⟩) (v := ?_) rfl (by kernel_rfl) (by kernel_rfl) (by kernel_rfl) (fun _ _ _ h => h) (Or.inl ⟨by rfl, ?_⟩) hS ?_
      rotate_left
      · intro w0 hs; subst hs; go_simp; try (with_reducible rfl)
      try simp only [Act.put, List.setIfInBounds_toArray, List.set_cons_zero, List.set_cons_succ]
      refine wpAnyH_done (by kernel_rfl) ?_ _
      clear hS LD1 LD2 heq
      by_cases he : h = xk
      · have heb : (h == xk) = true := by rw [he]; exact beq_self_eq_true _
        rw [heb]
        clear heb
        go_wp2
        go_ret
        subst hgw
        refine ⟨(k : Int), rfl, ⟨fun _ => ?_, fun _ => by omega⟩, K0.out.trans ((HM.out.1.drew).mono K0.out.size)⟩
        have hk2 : k < hs.length := by rw [HL.out]; exact hlt
        rw [he, ← HXK.out, List.getD_eq_getElem?_getD, List.getElem?_eq_getElem hk2]
        exact List.getElem_mem _
      · have heb : (h == xk) = false := beq_false_of_ne he
        rw [heb]
        clear heb
        have HE := Lib.hid he
        clear he
        go_wp2
        go_roundg (n - (k + 1))
        case measure => rw [HG.out]; omega
        case rel =>
          refine ⟨k + 1, hlt, rfl, rfl, HM.out.1.drew, fun j hj => ?_⟩
          rcases (by omega : j < k ∨ j = k) with h1 | rfl
          · exact HM.out.2 j h1
          · rw [HXK.out]; exact fun e => HE.out e.symm
    · obtain rfl : k = n := by omega
      go_wp2
      go_ret
      refine ⟨-1, rfl, ⟨fun h0 => by omega, fun hm => ?_⟩, ?_⟩
      · obtain ⟨j, hj, e⟩ := List.getElem_of_mem hm
        exact absurd (by rw [List.getD_eq_getElem?_getD, List.getElem?_eq_getElem hj, e]; rfl) (HM.out.2 j (by rw [← HL.out]; exact hj))
      · subst hgw; exact K0.out.trans (HM.out.1.mono K0.out.size)
theorem hcontains (q : Option Addr) (n c : Nat) (hs : List Nat) (h : Nat) (w : World) (hh : HsIn w q n hs) (hw : h < W256) (hn : n ≤ 1000000) :
    Calls Try.prog 21 #[.slice q n c, hv h] w fun e w' => e = .returned (.bool (decide (h ∈ hs))) ∧ Below w.heap.size w w' := by
  have h0 := hh.below ((Below.refl w.heap.size w).alloc (Nat.le_refl _) (.cells (hcs h) 26))
  have PI := Lib.hid (hindex q n c hs h _ h0 hw hn)
  have B0 := Blk.new w (hcs h) 26
  have K0 := Lib.hid ((Below.refl w.heap.size w).alloc (Nat.le_refl _) (.cells (hcs h) 26))
  clear hh h0
  go_enter Try.func21, Try.ntmps21
  go_upto_region 1 with fail
  generalize w.alloc (.cells (hcs h) 26) = w0 at *
  go_wp2_with (refine wpl_load rfl 26 (.tmp 3) rfl rfl B0 Try.underlying26 (by rw [hcs_size]; kernel_rfl) ?_)
  refine PI.out.mono ?_
  rintro e w1 ⟨r, rfl, hr, hb⟩
  have H := Lib.hid (And.intro hr hb)
  clear hr hb
  go_wp2
  go_ret
  refine ⟨congrArg (fun b => Ending.returned (.bool b)) ?_, K0.out.trans (H.out.2.mono K0.out.size)⟩
  exact decide_eq_decide.2 H.out.1
set_option maxHeartbeats 1600000 in
theorem hequal (q q2 : Option Addr) (n c c2 : Nat) (hs : List Nat) (w : World) (h1 : HsIn w q n hs) (h2 : HsIn w q2 n hs) (hn : n ≤ 1000000) :
    Calls Try.prog 14 #[.slice q n c, .slice q2 n c2] w fun e w' => e = .returned (.bool true) ∧ Below w.heap.size w w' := by
  have H1 := Lib.hid h1
  have H2 := Lib.hid h2
  clear h1 h2
  have LDI := hashInfo
  go_enter Try.func14, Try.ntmps14
  go_wp2
  go_loopg [13] n (fun gh i wx => ∃ k : Nat, k ≤ n ∧ i = .int .i64 (k : Int) ∧ gh = n - k ∧ Hid (Below w.heap.size w wx))
  case atStart => exact ⟨0, Nat.zero_le _, rfl, rfl, Below.refl _ _⟩
  case round =>
    obtain ⟨k, hk, rfl, hg, HM⟩ := hrel
    have HG := Lib.hid hg
    clear hg
    by_cases hlt : k < n
    · obtain ⟨g, rfl, hgl, hr, hx⟩ := (H1.out.below HM.out).2 k hlt
      obtain ⟨g2, rfl, hgl2, hr2, hx2⟩ := (H2.out.below HM.out).2 k hlt
      have LD1 : wr.drew.rangeAt g (k * 32) (hls (hs.getD k 0)) := hr
      have LD2 : wr.drew.rangeAt g2 (k * 32) (hls (hs.getD k 0)) := hr2
      have hne := fun w' => hneq (hs.getD k 0) (hs.getD k 0) hx hx w'
      rw [show ((hs.getD k 0) != (hs.getD k 0)) = false from bne_self_eq_false _] at hne
      generalize hxk : hs.getD k 0 = xk at *
      clear hr hx hxk hr2 hx2
      have hk63 : k ≤ 1000000 := by omega
      go_upto_region 6 with fail
      refine wp_region_held_drew (S := fun w' => w' = wr.drew) (by kernel_rfl) rfl (fun hS => ?_)
      refine wpAnyH_take (i := 0) (oi := ⟨_, _, _, _, _, _⟩) (v := ?_) rfl (by kernel_rfl) (by kernel_rfl) (by kernel_rfl) (fun _ _ _ h => h) (Or.inl ⟨by rfl, ?_⟩) hS ?_
      rotate_left
      · intro w0 hs; subst hs; go_simp; try (with_reducible rfl)
      try simp only [Act.put, List.setIfInBounds_toArray, List.set_cons_zero, List.set_cons_succ]
      refine wpAnyH_take (i := 1) (oi := ⟨_, _, _, _, _, _⟩) (v := ?_) rfl (by kernel_rfl) (by kernel_rfl) (by kernel_rfl) (fun _ _ _ h => h) (Or.inl ⟨by rfl, ?_⟩) hS ?_
      rotate_left
      · intro w0 hs; subst hs; go_simp; try (with_reducible rfl)
      try simp only [Act.put, List.setIfInBounds_toArray, List.set_cons_zero, List.set_cons_succ]
      refine wpAnyH_take (i := 2) (oi := ⟨_, _, _, _, _, _⟩) (v := ?_) rfl (by kernel_rfl) (by kernel_rfl) (by kernel_rfl) (fun _ _ _ h => h) (Or.inl ⟨by rfl, ?_⟩) hS ?_
      rotate_left
      · intro w0 hs; subst hs; go_simp; try (with_reducible rfl)
      try simp only [Act.put, List.setIfInBounds_toArray, List.set_cons_zero, List.set_cons_succ]
      refine wpAnyH_take (i := 3) (oi := ⟨_, _, _, _, _, _⟩) (v := hv xk) rfl (by kernel_rfl) (by kernel_rfl) (by kernel_rfl) (fun _ _ _ h => h) (yieldsIf_load_mid (by rfl) 26 (.tmp 18) rfl g (k * 32) rfl (hls xk) (.array 32 5) (fun _ hs => hs ▸ LD1) Try.underlying26 rfl LDI) hS ?_
      try simp only [Act.put, List.setIfInBounds_toArray, List.set_cons_zero, List.set_cons_succ]
      refine wpAnyH_take (i := 4) (oi := ⟨_, _, _, _, _, _⟩) (v := ?_) rfl (by kernel_rfl) (by kernel_rfl) (by kernel_rfl) (fun _ _ _ h => h) (Or.inl ⟨by rfl, ?_⟩) hS ?_
      rotate_left
      · intro w0 hs; subst hs; go_simp; try (with_reducible rfl)
      try simp only [Act.put, List.setIfInBounds_toArray, List.set_cons_zero, List.set_cons_succ]
      refine wpAnyH_take (i := 5) (oi := ⟨_, _, _, _, _, _⟩) (v := ?_) rfl (by kernel_rfl) (by kernel_rfl) (by kernel_rfl) (fun _ _ _ h => h) (Or.inl ⟨by rfl, ?_⟩) hS ?_
      rotate_left
      · intro w0 hs; subst hs; go_simp; try (with_reducible rfl)
      try simp only [Act.put, List.setIfInBounds_toArray, List.set_cons_zero, List.set_cons_succ]
      refine wpAnyH_take (i := 6) (oi := ⟨_, _, _, _, _, _⟩) (v := ?_) rfl (by kernel_rfl) (by kernel_rfl) (by kernel_rfl) (fun _ _ _ h => h) (Or.inl ⟨by rfl, ?_⟩) hS ?_
      rotate_left
      · intro w0 hs; subst hs; go_simp; try (with_reducible rfl)
      try simp only [Act.put, List.setIfInBounds_toArray, List.set_cons_zero, List.set_cons_succ]
      refine wpAnyH_take (i := 7) (oi := ⟨_, _, _, _, _, _⟩) (v := hv xk) rfl (by kernel_rfl) (by kernel_rfl) (by kernel_rfl) (fun _ _ _ h => h) (yieldsIf_load_mid (by rfl) 26 (.tmp 22) rfl g2 (k * 32) rfl (hls xk) (.array 32 5) (fun _ hs => hs ▸ LD2) Try.underlying26 rfl LDI) hS ?_
      try simp only [Act.put, List.setIfInBounds_toArray, List.set_cons_zero, List.set_cons_succ]
      refine wpAnyH_take (i := 8) (oi := ⟨_, _, _, _, _, _⟩) (v := ?_) rfl (by kernel_rfl) (by kernel_rfl) (by kernel_rfl) (fun _ _ _ h => h) (Or.inl ⟨by rfl, ?_⟩) hS ?_
      rotate_left
      · intro w0 hs; subst hs; go_simp; try (with_reducible rfl)
      try simp only [Act.put, List.setIfInBounds_toArray, List.set_cons_zero, List.set_cons_succ]
      refine wpAnyH_done (by kernel_rfl) ?_ _
      clear hS LD1 LD2 hne
      go_wp2
      go_roundg (n - (k + 1))
      case measure => rw [HG.out]; omega
      case rel => exact ⟨k + 1, hlt, rfl, rfl, HM.out.drew⟩
    · obtain rfl : k = n := by omega
      go_wp2
      go_ret
      exact ⟨rfl, HM.out⟩
end Go.Proofs.Ytgedpgdefafofaa
