import Derived.Test.YtbjbjgfjaopibaaDoorPu11
import Derived.Laws.BytesArg
import Derived.Test.YtbjbjgfjaopibaaDoorPu10
import Derived.Test.YtbjbjgfjaopibaaDoorPu2
import Derived.Test.YtbjbjgfjaopibaaDoorPu1
import Derived.Deep.MidRow
section
/- The reader of batches: count, text, key. -/
namespace Go.Proofs.YtbjbjgfjaopibaaDoor
open Go Go.RowKit
set_option linter.unusedSimpArgs false
set_option linter.unusedVariables false
set_option maxRecDepth 100000

/-- bytes as a string -/
theorem conv_str {w : World} {p : Option Addr} {c : Nat} {xs : List Int} (h : Lib.BytesIn w p xs.length xs) : (convert 32 9 (.slice p xs.length c)).run Tryd.prog w = .ok (.string (sK (kOf xs))) w := by
  rcases Nat.eq_zero_or_pos xs.length with h0 | h0
  · obtain rfl := List.eq_nil_of_length_eq_zero h0
    exact run_convert_bytes_zero w _ _ Tryd.underlying32 Tryd.underlying5 p c _ Tryd.underlying9
  · obtain ⟨b, o, rfl, hc⟩ := h.at h0
    exact run_convert_bytes_arg (P := Tryd.prog) w 32 5 Tryd.underlying32 Tryd.underlying5 b o xs.length c xs rfl hc 9 Tryd.underlying9
/-- a reader: bytes that are left (in a block of which P holds), and whether it is bad -/
def RdP (P : Nat → Prop) (w : World) (r : Nat) (left : List Int) (bad : Bool) : Prop := ∃ p c, Blk w r #[.slice p left.length c, .bool bad] 100 ∧ Lib.BytesIn w p left.length left ∧ left.length ≤ c ∧ (c ≤ 9223372036854775807 ∧ left.length ≤ 140737488351232) ∧ (0 < left.length → ∀ q, p = some q → P q.block)
def RdJ (w : World) (r : Nat) (left : List Int) (bad : Bool) : Prop := RdP (fun b => b ≠ r) w r left bad
theorem RdP.keep {P X : Nat → Prop} {w w' : World} {r : Nat} {left : List Int} {bad : Bool} (h : RdP P w r left bad) (hk : Keep X w w') (hn : ¬ X r) (hx : ∀ b, P b → b < w.heap.size → ¬ X b) : RdP P w' r left bad := by
  obtain ⟨p, c, h1, h2, h3, h4, h5⟩ := h
  exact ⟨p, c, hk.blk h1 hn, bytes_keep h2 hk (fun h0 q hq => hx _ (h5 h0 q hq) (bytes_lt h2 h0 q hq)), h3, h4, h5⟩
theorem RdP.mono {P Q : Nat → Prop} {w : World} {r : Nat} {left : List Int} {bad : Bool} (h : RdP P w r left bad) (hq : ∀ b, P b → b < w.heap.size → Q b) : RdP Q w r left bad := by
  obtain ⟨p, c, h1, h2, h3, h4, h5⟩ := h
  exact ⟨p, c, h1, h2, h3, h4, fun h0 q e => hq _ (h5 h0 q e) (bytes_lt h2 h0 q e)⟩
theorem RdP.lt {P : Nat → Prop} {w : World} {r : Nat} {left : List Int} {bad : Bool} (h : RdP P w r left bad) : r < w.heap.size := by
  obtain ⟨p, c, h1, _⟩ := h
  exact h1.lt
/-- a reader that was written anew -/
theorem RdP.of_row {B : Nat} {w : World} {r : Nat} {v : Value} {left : List Int} {bad : Bool} {o : Option Nat} (hb : Blk w r #[v, .bool bad] 100) (h : Row w 5 v left o) (ho : ∀ g, o = some g → B ≤ g) (hl : left.length ≤ 140737488351232) : RdP (fun b => B ≤ b) w r left bad := by
  obtain ⟨p, c, rfl, hy, hle, hc, hq⟩ := h.form
  refine ⟨p, c, hb, hy, hle, ⟨by unfold maxLen at hc; omega, hl⟩, fun h0 q hp => ?_⟩
  rcases hq with ⟨h1, _⟩ | ⟨g, h1, h2, _⟩
  · rw [h1] at hp; cases hp
  · rw [h2] at hp; cases hp; exact ho g h1
def CntPost (r : Nat) (left : List Int) (bad : Bool) (w : World) (e : Ending) (w' : World) : Prop := Keep (fun k => k = r) w w' ∧
  ((∃ n s, rdCnt left = some (n, s) ∧ e = .returned (.int .i64 (n : Int)) ∧ RdP (fun b => w.heap.size ≤ b) w' r s bad ∧ n ≤ 20000) ∨ (rdCnt left = none ∧ e = .returned (.int .i64 0) ∧ ∃ s, RdP (fun b => w.heap.size ≤ b) w' r s true ∧ Byt s))
theorem CntPost.ok {r : Nat} {left : List Int} {bad : Bool} {w w' : World} {n : Nat} {s : List Int} (hk : Keep (fun k => k = r) w w') (h : rdCnt left = some (n, s)) (hr : RdP (fun b => w.heap.size ≤ b) w' r s bad) (hn : n ≤ 20000) : CntPost r left bad w (.returned (.int .i64 (n : Int))) w' := ⟨hk, .inl ⟨n, s, h, rfl, hr, hn⟩⟩
theorem CntPost.bad {r : Nat} {left : List Int} {bad : Bool} {w w' : World} {s : List Int} (hk : Keep (fun k => k = r) w w') (h : rdCnt left = none) (hr : RdP (fun b => w.heap.size ≤ b) w' r s true) (hb : Byt s) : CntPost r left bad w (.returned (.int .i64 0)) w' := ⟨hk, .inr ⟨h, rfl, s, hr, hb⟩⟩
theorem decR_byt {bs : List Int} (h : Byt bs) : Byt (decR bs) := by
  match bs, h with
  | [], _ => exact Byt.nil
  | b :: t, h => exact Byt.drop (fun y hy => h y (List.mem_cons_of_mem _ hy)) _
theorem decR_len (bs : List Int) : (decR bs).length ≤ bs.length := by
  match bs with
  | [] => exact Nat.le_refl _
  | b :: t =>
    show (t.drop (decW b)).length ≤ t.length + 1
    rw [List.length_drop]; omega
set_option maxHeartbeats 3200000 in
theorem pcount (r : Nat) (left : List Int) (bad : Bool) (w : World) (h : RdJ w r left bad) (hb : Byt left) :
    Calls Tryd.prog 63 #[.pointer (some ⟨r, 0, none⟩)] w (CntPost r left bad w) := by
  obtain ⟨p, c, b0, hy, hlc, ⟨hcm, hl⟩, hne⟩ := h
  have PD := Lib.hid (pdecode left p c w hy hb hlc hcm (by omega))
  have hdl := decR_len left
  have c0 : w.cell? ⟨r, 0, none⟩ = some (.slice p left.length c) := b0.cell 0
  have HB := Lib.hid (And.intro b0 (And.intro hb (And.intro hdl hl)))
  clear b0 hy hb hne hdl
  generalize hn : left.length = n at *
  go_enter Tryd.func63, Tryd.ntmps63
  go_wp2_with fail
  refine PD.out.mono ?_
  rintro e w1 ⟨x, v, rfl, hb1, h0, h1⟩
  have b1 := HB.out.1.beyond hb1
  have c0' : w1.cell? ⟨r, 0, none⟩ = some (.slice p n c) := b1.cell 0
  have f0 := b1.free 0
  clear c0
  have bs : Blk (w1.setCell ⟨r, 0, none⟩ v) r #[v, .bool bad] 100 := b1.set 0 v
  have k1 : Keep (fun k => k = r) w (w1.setCell ⟨r, 0, none⟩ v) := Keep.set (X := fun k => k = r) (Keep.of_below hb1) (p := ⟨r, 0, none⟩) (.inl rfl) v
  have hrw1 : r < w.heap.size := HB.out.1.lt
  by_cases hE : decE left = 0
  · obtain ⟨hx, o, R, ho⟩ := h0 hE
    obtain ⟨p2, c2, rfl, _⟩ := R.form
    obtain ⟨hdec, hlt64⟩ := enc_dec HB.out.2.1 hE
    have R1 : Row (w1.setCell ⟨r, 0, none⟩ (.slice p2 (decR left).length c2)) 5 (.slice p2 (decR left).length c2) (decR left) o := R.keep (X := fun k => k = r) (Keep.set (X := fun k => k = r) (Keep.refl _ w1) (p := ⟨r, 0, none⟩) (.inl rfl) _) (fun g hg e => by subst e; have := ho g hg; omega)
    have hr0 : RdP (fun b => w.heap.size ≤ b) (w1.setCell ⟨r, 0, none⟩ (.slice p2 (decR left).length c2)) r (decR left) bad := RdP.of_row bs R1 ho (by have := HB.out.2.2.1; omega)
    rw [hE]
    subst hx
    by_cases hm : decN left ≤ 20000
    · have hc : rdCnt left = some (decN left, decR left) := if_pos ⟨hE, hm⟩
      have HF := Lib.hid (And.intro k1 (And.intro hc (And.intro hr0 hm)))
      have m1 : decide ((20000 : Int) < (decN left : Int)) = false := decide_eq_false (by omega)
      clear h0 h1 hE R ho hdec R1 hr0 hc k1 bs b1 hb1
      generalize decN left = N at *
      generalize (decR left).length = dl at *
      go_wp2
      go_ret
      exact CntPost.ok HF.out.1 HF.out.2.1 HF.out.2.2.1 HF.out.2.2.2
    · have hc : rdCnt left = none := if_neg (fun h => hm h.2)
      have bs2 : Blk ((w1.setCell ⟨r, 0, none⟩ (.slice p2 (decR left).length c2)).setCell ⟨r, 1, none⟩ (.bool true)) r #[.slice p2 (decR left).length c2, .bool true] 100 := bs.set 1 (.bool true)
      have R2 : Row ((w1.setCell ⟨r, 0, none⟩ (.slice p2 (decR left).length c2)).setCell ⟨r, 1, none⟩ (.bool true)) 5 (.slice p2 (decR left).length c2) (decR left) o := R1.keep (X := fun k => k = r) (Keep.set (X := fun k => k = r) (Keep.refl _ (w1.setCell ⟨r, 0, none⟩ (.slice p2 (decR left).length c2))) (p := ⟨r, 1, none⟩) (.inl rfl) (.bool true)) (fun g hg e => by subst e; have := ho g hg; omega)
      have hr2 := RdP.of_row (B := w.heap.size) bs2 R2 ho (by have := HB.out.2.2.1; omega)
      have HF := Lib.hid (And.intro (k1.set (p := ⟨r, 1, none⟩) (.inl rfl) (.bool true)) (And.intro hc (And.intro hr2 (decR_byt HB.out.2.1))))
      have m1 : (20000 : Int) < (decN left : Int) := by omega
      have cs1 := bs.cell 1
      have fs1 := bs.free 1
      clear h0 h1 hE R ho hdec R1 hr0 hc k1 b1 hb1 bs2 R2 hr2 bs
      generalize decN left = N at *
      generalize (decR left).length = dl at *
      go_wp2
      go_ret
      exact CntPost.bad HF.out.1 HF.out.2.1 HF.out.2.2.1 HF.out.2.2.2
  · obtain ⟨rfl, rfl⟩ := h1 hE
    have hc : rdCnt left = none := if_neg (fun h => hE h.1)
    have hne : (decE left != 0) = true := by simpa using hE
    have bs2 : Blk ((w1.setCell ⟨r, 0, none⟩ (.slice none 0 0)).setCell ⟨r, 1, none⟩ (.bool true)) r #[.slice none 0 0, .bool true] 100 := bs.set 1 (.bool true)
    have hr2 := RdP.of_row (B := w.heap.size) bs2 (Row.nil _ _) (fun g e => by cases e) (by decide)
    have HF := Lib.hid (And.intro (k1.set (p := ⟨r, 1, none⟩) (.inl rfl) (.bool true)) (And.intro hc hr2))
    have cs1 := bs.cell 1
    have fs1 := bs.free 1
    clear h0 h1 hE hc bs2 hr2 k1 b1 hb1 bs
    generalize decE left = E at *
    go_wp2
    go_ret
    exact CntPost.bad HF.out.1 HF.out.2.1 HF.out.2.2 Byt.nil
def RtxPost (r : Nat) (left : List Int) (bad : Bool) (most : Nat) (w : World) (e : Ending) (w' : World) : Prop := Keep (fun k => k = r) w w' ∧
  ∃ (xs : List Int) (p : Option Addr) (c : Nat) (o : Option Nat), e = .returned (.slice p xs.length c) ∧ Row w' 5 (.slice p xs.length c) xs o ∧ (∀ g, o = some g → w.heap.size ≤ g) ∧ Byt xs ∧ xs.length ≤ most ∧
    ((rtE left most = 0 ∧ xs = rtX left ∧ RdP (fun b => w.heap.size ≤ b) w' r (rtR left) bad) ∨ (rtE left most ≠ 0 ∧ xs = [] ∧ RdP (fun b => w.heap.size ≤ b) w' r [] true))
theorem rt_parts {bs : List Int} {most : Nat} (hb : Byt bs) (h : rtE bs most = 0) : Byt (rtX bs) ∧ Byt (rtR bs) ∧ (rtX bs).length ≤ most ∧ (rtR bs).length ≤ bs.length := by
  obtain ⟨e, hl⟩ := enc_rt hb h
  have hb' : Byt (txtB (rtX bs) ++ rtR bs) := by rw [← e]; exact hb
  refine ⟨(hb'.left).right, hb'.right, hl, ?_⟩
  have := congrArg List.length e
  rw [List.length_append] at this; omega
set_option maxHeartbeats 3200000 in
theorem prtext (r : Nat) (left : List Int) (bad : Bool) (M : Nat) (w : World) (h : RdJ w r left bad) (hb : Byt left) (hM : M ≤ 1000000) :
    Calls Tryd.prog 65 #[.pointer (some ⟨r, 0, none⟩), .int .i64 (M : Int)] w (RtxPost r left bad M w) := by
  obtain ⟨p, c, b0, hy, hlc, ⟨hcm, hl⟩, hne⟩ := h
  have PD := Lib.hid (preadtext left M p c w hy hb hlc hcm (by omega) hM)
  have c0 : w.cell? ⟨r, 0, none⟩ = some (.slice p left.length c) := b0.cell 0
  have HB := Lib.hid (And.intro b0 (And.intro hb hl))
  clear b0 hy hb hne
  generalize hn : left.length = n at *
  have HNN := Lib.hid hn
  clear hn
  go_enter Tryd.func65, Tryd.ntmps65
  go_wp2_with fail
  refine PD.out.mono ?_
  rintro e w1 ⟨v1, v2, rfl, hb1, h0, h1⟩
  have b1 := HB.out.1.beyond hb1
  have c0' : w1.cell? ⟨r, 0, none⟩ = some (.slice p n c) := b1.cell 0
  have c1' : w1.cell? ⟨r, 1, none⟩ = some (.bool bad) := b1.cell 1
  have f0 := b1.free 0
  have f1 := b1.free 1
  clear c0
  have hrw1 : r < w.heap.size := HB.out.1.lt
  by_cases hE : rtE left M = 0
  · obtain ⟨o1, o2, R1, R2, ho1, ho2, _⟩ := h0 hE
    obtain ⟨p1, cc1, rfl, _⟩ := R1.form
    obtain ⟨p2, cc2, rfl, _⟩ := R2.form
    obtain ⟨hx1, hx2, hx3, hx4⟩ := rt_parts HB.out.2.1 hE
    have k2 : Keep (fun k => k = r) w1 ((w1.setCell ⟨r, 0, none⟩ (.slice p2 (rtR left).length cc2)).setCell ⟨r, 1, none⟩ (.bool bad)) := Keep.set (X := fun k => k = r) (Keep.set (X := fun k => k = r) (Keep.refl _ w1) (p := ⟨r, 0, none⟩) (.inl rfl) _) (p := ⟨r, 1, none⟩) (.inl rfl) _
    have bs : Blk ((w1.setCell ⟨r, 0, none⟩ (.slice p2 (rtR left).length cc2)).setCell ⟨r, 1, none⟩ (.bool bad)) r #[.slice p2 (rtR left).length cc2, .bool bad] 100 := (b1.set 0 _).set 1 _
    have R1' := R1.keep k2 (fun g hg e => by subst e; have := ho1 g hg; omega)
    have R2' := R2.keep k2 (fun g hg e => by subst e; have := ho2 g hg; omega)
    have hr0 := RdP.of_row (B := w.heap.size) bs R2' ho2 (by have := HB.out.2.2; have := HNN.out; omega)
    have kk : Keep (fun k => k = r) w ((w1.setCell ⟨r, 0, none⟩ (.slice p2 (rtR left).length cc2)).setCell ⟨r, 1, none⟩ (.bool bad)) := (Keep.of_below hb1).trans k2
    have HF := Lib.hid (And.intro kk (And.intro R1' (And.intro ho1 (And.intro hx1 (And.intro hx3 (And.intro hE hr0))))))
    rw [hE]
    clear h0 h1 hE R1 R2 ho1 ho2 k2 bs R1' R2' hr0 kk hx1 hx2 hx3 hx4 b1 hb1
    cases bad
    all_goals
      generalize (rtR left).length = rl at *
      go_wp2
      go_ret
      exact ⟨HF.out.1, rtX left, p1, cc1, o1, rfl, HF.out.2.1, HF.out.2.2.1, HF.out.2.2.2.1, HF.out.2.2.2.2.1, .inl ⟨HF.out.2.2.2.2.2.1, rfl, HF.out.2.2.2.2.2.2⟩⟩
  · obtain ⟨rfl, rfl⟩ := h1 hE
    have hne : (rtE left M != 0) = true := by simpa using hE
    have k2 : Keep (fun k => k = r) w1 ((w1.setCell ⟨r, 0, none⟩ (.slice none 0 0)).setCell ⟨r, 1, none⟩ (.bool true)) := Keep.set (X := fun k => k = r) (Keep.set (X := fun k => k = r) (Keep.refl _ w1) (p := ⟨r, 0, none⟩) (.inl rfl) _) (p := ⟨r, 1, none⟩) (.inl rfl) _
    have bs : Blk ((w1.setCell ⟨r, 0, none⟩ (.slice none 0 0)).setCell ⟨r, 1, none⟩ (.bool true)) r #[.slice none 0 0, .bool true] 100 := (b1.set 0 _).set 1 _
    have hr0 := RdP.of_row (B := w.heap.size) bs (Row.nil _ _) (fun g e => by cases e) (by decide)
    have HF := Lib.hid (And.intro ((Keep.of_below hb1).trans k2) (And.intro hE hr0))
    clear h0 h1 hE k2 bs hr0 b1 hb1
    generalize rtE left M = E at hne ⊢
    cases bad
    all_goals
      go_wp2
      go_ret
      exact ⟨HF.out.1, [], none, 0, none, rfl, Row.nil _ _, fun g hg => (by cases hg), Byt.nil, Nat.zero_le _, .inr ⟨HF.out.2.1, rfl, HF.out.2.2⟩⟩
def KeyPost (r : Nat) (left : List Int) (bad : Bool) (w : World) (e : Ending) (w' : World) : Prop := Keep (fun k => k = r) w w' ∧
  ∃ k : Key, e = .returned (.string (sK k)) ∧ k.length ≤ 100 ∧ ((∃ s, rdKey left = some (k, s) ∧ RdP (fun b => w.heap.size ≤ b) w' r s bad) ∨ (rdKey left = none ∧ ∃ s, RdP (fun b => w.heap.size ≤ b) w' r s true ∧ Byt s))
set_option maxHeartbeats 3200000 in
theorem prkey (r : Nat) (left : List Int) (bad : Bool) (w : World) (h : RdJ w r left bad) (hb : Byt left) :
    Calls Tryd.prog 64 #[.pointer (some ⟨r, 0, none⟩)] w (KeyPost r left bad w) := by
  have PT := Lib.hid (prtext r left bad 100 w h hb (by decide))
  have HH := Lib.hid (And.intro h hb)
  clear h hb
  go_enter Tryd.func64, Tryd.ntmps64
  go_wp2_with fail
  refine PT.out.mono ?_
  rintro e w1 ⟨k1, xs, p, c, o, rfl, R, ho, hbx, hxl, hcase⟩
  obtain ⟨_, _, e1, hy, _⟩ := R.form
  cases e1
  have hcv := conv_str (c := c) hy
  have PF := pfine (sK (kOf xs)) w1 (by show (kOf xs).toArray.size ≤ 140737488351232; simp [kOf]; omega)
  rw [bsK_sK] at PF
  have hkl : (kOf xs).length = xs.length := by simp [kOf]
  have hbad : ∃ b2 s2, RdP (fun b => w.heap.size ≤ b) w1 r s2 b2 ∧ Byt s2 ∧ ((rtE left 100 = 0 ∧ xs = rtX left ∧ s2 = rtR left ∧ b2 = bad) ∨ (rtE left 100 ≠ 0 ∧ xs = [] ∧ b2 = true)) := by
    rcases hcase with ⟨a1, a2, a3⟩ | ⟨a1, a2, a3⟩
    · exact ⟨bad, rtR left, a3, (rt_parts HH.out.2 a1).2.1, .inl ⟨a1, a2, rfl, rfl⟩⟩
    · exact ⟨true, [], a3, Byt.nil, .inr ⟨a1, a2, rfl⟩⟩
  obtain ⟨b2, s2, hr2, hs2, hcase2⟩ := hbad
  obtain ⟨pr, cr, b1, hyr, hlr, hcr, hnr⟩ := hr2
  have c1' : w1.cell? ⟨r, 1, none⟩ = some (.bool b2) := b1.cell 1
  have f1 := b1.free 1
  have hrw : r < w.heap.size := HH.out.1.lt
  have key : ∀ b3 : Bool, RdP (fun b => w.heap.size ≤ b) (w1.setCell ⟨r, 1, none⟩ (.bool b3)) r s2 b3 := fun b3 => by
    have k2 : Keep (fun k => k = r) w1 (w1.setCell ⟨r, 1, none⟩ (.bool b3)) := Keep.set (X := fun k => k = r) (Keep.refl _ w1) (p := ⟨r, 1, none⟩) (.inl rfl) _
    exact ⟨pr, cr, b1.set 1 _, bytes_keep hyr k2 (fun h0 q hq e => by have := hnr h0 q hq; omega), hlr, hcr, hnr⟩
  have kk : ∀ b3 : Bool, Keep (fun k => k = r) w (w1.setCell ⟨r, 1, none⟩ (.bool b3)) := fun b3 => Keep.set (X := fun k => k = r) k1 (p := ⟨r, 1, none⟩) (.inl rfl) _
  have HK := Lib.hid (And.intro key (And.intro kk (And.intro hs2 (And.intro hcase2 (And.intro hkl hxl)))))
  clear key kk hs2 hcase2 hcase hkl hxl b1 hyr hlr hcr hnr R ho hbx k1 hy
  cases hf : fineK (kOf xs)
  all_goals
    rw [hf] at PF
    have PF := Lib.hid PF
    have HF := Lib.hid hf
    clear hf
  · cases b2
    all_goals
      generalize hk : sK (kOf xs) = ks at *
      have HKS := Lib.hid hk
      clear hk
      go_wp2_with (refine PF.out.mono ?_; rintro e w' ⟨rfl, rfl⟩)
      go_ret
      refine ⟨HK.out.2.1 true, kOf xs, by rw [HKS.out]; rfl, by have := HK.out.2.2.2.2.1; have := HK.out.2.2.2.2.2; omega, .inr ⟨?_, s2, HK.out.1 true, HK.out.2.2.1⟩⟩
      refine if_neg fun hh => ?_
      rcases HK.out.2.2.2.1 with ⟨_, a2, _, _⟩ | ⟨a1, _⟩
      · have h0 : fineK (kOf xs) = true := fineK_iff.2 ⟨by
          rw [HK.out.2.2.2.2.1]
          exact Nat.pos_of_ne_zero fun h => hh.2 (by rw [← a2]; exact List.eq_nil_of_length_eq_zero h), by rw [HK.out.2.2.2.2.1]; exact HK.out.2.2.2.2.2⟩
        rw [HF.out] at h0; cases h0
      · exact a1 hh.1
  · have hok : rtE left 100 = 0 ∧ xs = rtX left ∧ s2 = rtR left ∧ b2 = bad := by
      rcases HK.out.2.2.2.1 with h | ⟨_, a2, _⟩
      · exact h
      · have := (fineK_iff.1 HF.out).1; rw [a2] at this; simp [kOf] at this
    have hrd : rdKey left = some (kOf xs, s2) := by
      rw [hok.2.2.1, hok.2.1]
      refine if_pos ⟨hok.1, fun h0 => ?_⟩
      have := (fineK_iff.1 HF.out).1; rw [hok.2.1, h0] at this; simp [kOf] at this
    have hbb := hok.2.2.2
    clear hok
    have HRD := Lib.hid (And.intro hrd hbb)
    clear hrd hbb
    cases b2
    all_goals
      generalize hk : sK (kOf xs) = ks at *
      have HKS := Lib.hid hk
      clear hk
      go_wp2_with (refine PF.out.mono ?_; rintro e w' ⟨rfl, rfl⟩)
      go_ret
      exact ⟨HK.out.2.1 _, kOf xs, by rw [HKS.out]; rfl, by have := HK.out.2.2.2.2.1; have := HK.out.2.2.2.2.2; omega, .inl ⟨s2, HRD.out.1, by rw [← HRD.out.2]; exact HK.out.1 _⟩⟩
end Go.Proofs.YtbjbjgfjaopibaaDoor
end

section
/- Elements and lists of them in memory of their own, of any kind. -/
namespace Go.Proofs.YtbjbjgfjaopibaaDoor
open Go Go.RowKit
set_option linter.unusedSimpArgs false
set_option linter.unusedVariables false
set_option maxRecDepth 100000

/-- a kind of element: its cells, and what it is to lie in blocks of which P holds -/
structure EKind (α : Type) where
  k : Nat
  cs : α → List Value
  at' : (Nat → Prop) → World → α → Prop
  len : ∀ x, (cs x).length = k
  one : ∀ x, ∀ u ∈ cs x, u.oneCell' = true
  keep : ∀ {P X : Nat → Prop} {w w' : World} {x : α}, at' P w x → Keep X w w' → (∀ b, P b → ¬ X b) → at' P w' x
  mono : ∀ {P P' : Nat → Prop} {w : World} {x : α}, at' P w x → (∀ b, P b → P' b) → at' P' w x
section
variable {α : Type} {K : EKind α} {w w' w0 : World} {G : Nat} {v : Value} {X : List α} {e : TypeId}
/-- a list that grows by append -/
def LstAt (K : EKind α) (e : TypeId) (w : World) (G : Nat) (v : Value) (X : List α) : Prop :=
  ∃ o, RowV w e K.k v X.length (X.flatMap K.cs) o ∧ (∀ g, o = some g → G ≤ g) ∧ ∀ x ∈ X, K.at' (fun b => G ≤ b ∧ b < w.heap.size ∧ o ≠ some b) w x
theorem flat_len (K : EKind α) : ∀ X : List α, (X.flatMap K.cs).length = X.length * K.k
  | [] => by simp
  | x :: t => by rw [List.flatMap_cons, List.length_append, K.len, flat_len K t, List.length_cons, Nat.add_mul]; omega
theorem flat_one (K : EKind α) (X : List α) : ∀ u ∈ X.flatMap K.cs, u.oneCell' = true := fun u hu => by
  obtain ⟨x, _, hx⟩ := List.mem_flatMap.1 hu
  exact K.one x u hx
theorem flat_get (K : EKind α) : ∀ (X : List α) (i j : Nat) (h : i < X.length), j < K.k → (X.flatMap K.cs)[i * K.k + j]? = (K.cs X[i])[j]?
  | [], i, j, h, _ => by simp at h
  | x :: t, 0, j, _, hj => by
    rw [List.flatMap_cons, Nat.zero_mul, Nat.zero_add, List.getElem?_append_left (by rw [K.len]; exact hj)]; rfl
  | x :: t, i + 1, j, h, hj => by
    rw [List.flatMap_cons, List.getElem?_append_right (by rw [K.len, Nat.add_mul]; omega), K.len, show (i + 1) * K.k + j - K.k = i * K.k + j from by rw [Nat.add_mul]; omega, flat_get K t i j (by simpa using h) hj]
    rfl
theorem LstAt.nil (K : EKind α) (e : TypeId) (w : World) (G : Nat) : LstAt K e w G (.slice none 0 0) [] := ⟨none, RowV.nil _ _ _, fun g hg => (by cases hg), fun x hx => (by cases hx)⟩
theorem LstAt.more (h : LstAt K e w G v X) (hb : Below w.heap.size w w') : LstAt K e w' G v X := by
  obtain ⟨o, h1, h2, h3⟩ := h
  have kb := Keep.of_below (X := fun _ => False) hb
  exact ⟨o, h1.keep kb (fun _ _ h => h), h2, fun x hx => K.mono (K.keep (h3 x hx) kb (fun _ _ h => h)) (fun b hb' => ⟨hb'.1, Nat.lt_of_lt_of_le hb'.2.1 hb.size, hb'.2.2⟩)⟩
/-- an element put behind -/
theorem LstAt.add {P : Program} {i : TypeInfo} {z : Value} {by1 : Nat} (t : TypeId) (ht : P.underlying t = some (.slice e)) (hi : P.info? e = some i) (hz : i.zero = some z) (hs : i.size = K.k) (hby : i.bytes = by1) (hzs : z.cells.size = K.k) (hk : 0 < K.k)
    (h : LstAt K e w0 G v X) (hb : Below w0.heap.size w0 w) (hG : G ≤ w0.heap.size) {x : α} (hx : K.at' (fun b => w0.heap.size ≤ b ∧ b < w.heap.size) w x) (hmax : X.length + 1 ≤ maxLen) (hby2 : (X.length + 1) * by1 ≤ 140737488355328) :
    ∃ q n c w', v = .slice q X.length n ∧ (Builtin.append_ #[t, t] t #[v, .slice (some ⟨w.heap.size, 0, none⟩) 1 1]).run P (w.alloc (.cells (K.cs x).toArray e)) = .ok c w' ∧ LstAt K e w' G c (X ++ [x]) ∧ Below G w w' := by
  obtain ⟨o, h1, h2, h3⟩ := h
  obtain ⟨q, n, rfl, _⟩ := h1.form
  have kb := Keep.of_below (X := fun _ => False) hb
  have ka := (Keep.refl (fun _ => False) w).alloc (.cells (K.cs x).toArray e)
  have kab := kb.trans ka
  have rv := h1.keep kab (fun _ _ h => h)
  have hsz : (w.alloc (.cells (K.cs x).toArray e)).heap.size = w.heap.size + 1 := by simp
  have hlt : ∀ g, o = some g → g < w0.heap.size := fun g hg => h1.lt g hg
  obtain ⟨v', w', g', r1, r2, r3, r4⟩ := rowV_append (P := P) t t i z ht hi hz hs hby hzs hk rv (a := ⟨w.heap.size, 0, none⟩) (m := 1) (c := 1) (news := K.cs x) (by rw [K.len, Nat.one_mul]) (fun j u hu => by
    rw [Addr.add_lit, Nat.zero_add, (Blk.new w (K.cs x).toArray e).cell, List.getElem?_toArray]; exact hu) (K.one x) (by decide) hmax hby2
  have e5 : (X ++ [x]).length = X.length + 1 := by simp
  have hsize := r4.size
  refine ⟨q, n, v', w', rfl, r1, ⟨some g', ?_, fun g hg => ?_, fun y hy => ?_⟩, ?_⟩
  · rw [e5, List.flatMap_append, List.flatMap_singleton]; exact r2
  · cases hg
    rcases r3 with h | h
    · exact h2 _ h
    · rw [hsz] at h; have := hb.size; omega
  · rcases List.mem_append.1 hy with hy | hy
    · refine K.mono (K.keep (K.keep (h3 y hy) kab (fun _ _ h => h)) r4 (fun b hb' => hb'.2.2)) (fun b hb' => ⟨hb'.1, by have := hb'.2.1; have := hb.size; omega, fun e => ?_⟩)
      cases e
      rcases r3 with h | h
      · exact hb'.2.2 h
      · have := hb'.2.1; have := hb.size; omega
    · rw [List.mem_singleton.1 hy]
      refine K.mono (K.keep (K.keep hx ka (fun _ _ h => h)) r4 (fun b hb' e => ?_)) (fun b hb' => ⟨by have := hb'.1; omega, by have := hb'.2; omega, fun e => ?_⟩)
      · have := hlt _ e; have := hb'.1; omega
      · cases e
        rcases r3 with h | h
        · have := hlt _ h; have := hb'.1; omega
        · have := hb'.2; omega
  · have hGw : G ≤ w.heap.size := Nat.le_trans hG hb.size
    exact ((Below.refl G w).alloc hGw _).trans (r4.below (by rw [hsz]; omega) (fun g hg => h2 _ hg))
/-- a slice of such elements -/
def slAt (K : EKind α) (P : Nat → Prop) (w : World) (s : SlD α) : Prop :=
  s.n ≤ s.c ∧ (s.n ≤ 1048576 ∧ s.c ≤ 9223372036854775807) ∧ (s.a = none → s.c = 0) ∧ (∀ q, s.a = some q → P q.block) ∧ ∀ i, i < s.n → ∃ b o, s.a = some ⟨b, o, none⟩ ∧ CellsAt w b (o + i * K.k) (K.cs (s.x i)) ∧ K.at' P w (s.x i)
theorem slAt.keep {P X : Nat → Prop} {s : SlD α} (h : slAt K P w s) (hk : Keep X w w') (hn : ∀ b, P b → ¬ X b) : slAt K P w' s :=
  ⟨h.1, h.2.1, h.2.2.1, h.2.2.2.1, fun i hi => by
    obtain ⟨b, o, e1, e2, e3⟩ := h.2.2.2.2 i hi
    refine ⟨b, o, e1, fun j hj => ?_, K.keep e3 hk hn⟩
    have := e2 j hj
    rw [List.getElem?_eq_getElem hj] at this ⊢
    exact (hk.cell (cell_lt this) (hn b (h.2.2.2.1 _ e1))).trans this⟩
theorem slAt.mono {P P' : Nat → Prop} {s : SlD α} (h : slAt K P w s) (hm : ∀ b, P b → P' b) : slAt K P' w s :=
  ⟨h.1, h.2.1, h.2.2.1, fun q hq => hm _ (h.2.2.2.1 q hq), fun i hi => by
    obtain ⟨b, o, e1, e2, e3⟩ := h.2.2.2.2 i hi
    exact ⟨b, o, e1, e2, K.mono e3 hm⟩⟩
/-- what grew by append, as a slice -/
theorem LstAt.sl (x0 : α) (h : LstAt K e w G v X) (hl : X.length ≤ 1048576) : ∃ s : SlD α, v = s.cell ∧ s.n = X.length ∧ (∀ i, i < X.length → s.x i = X.getD i x0) ∧ slAt K (fun b => G ≤ b ∧ b < w.heap.size) w s := by
  obtain ⟨o, h1, h2, h3⟩ := h
  obtain ⟨q, c, rfl, hle, hcm, hcase⟩ := h1.form
  refine ⟨⟨q, X.length, c, fun i => X.getD i x0⟩, rfl, rfl, fun _ _ => rfl, hle, ⟨hl, by unfold maxLen at hcm; exact hcm⟩, fun hq => ?_, fun q' hq => ?_, fun i hi => ?_⟩
  · rcases hcase with ⟨_, _, h, _⟩ | ⟨g, _, h, _⟩
    · exact h
    · have hq' : q = none := hq
      rw [h] at hq'; cases hq'
  · have hq' : q = some q' := hq
    rcases hcase with ⟨h, _⟩ | ⟨g, ho, h, hg⟩
    · rw [h] at hq'; cases hq'
    · rw [h] at hq'; cases hq'
      exact ⟨h2 _ ho, hg⟩
  · have hi' : i < X.length := hi
    obtain ⟨g, cap, ho, ev, _, _, hg, hc, _⟩ := h1.mem (by omega)
    cases ev
    have egd : X.getD i x0 = X[i] := by rw [List.getD_eq_getElem?_getD, List.getElem?_eq_getElem hi']; rfl
    refine ⟨g, 0, rfl, fun j hj => ?_, ?_⟩
    · have hj' : j < K.k := by
        have : j < (K.cs (X.getD i x0)).length := hj
        rwa [K.len] at this
      show w.cell? ⟨g, 0 + i * K.k + j, none⟩ = (K.cs (X.getD i x0))[j]?
      rw [Nat.zero_add, hc (i * K.k + j) (by
        have : (i + 1) * K.k ≤ X.length * K.k := Nat.mul_le_mul_right _ hi'
        rw [Nat.add_mul] at this; omega), flat_get K X i j hi' hj', egd]
    · show K.at' _ w (X.getD i x0)
      rw [egd]
      exact K.mono (h3 _ (List.getElem_mem hi')) (fun b hb => ⟨hb.1, hb.2.1⟩)
end
/-- rows of bytes -/
def rwK : EKind RwD where
  k := 1
  cs := fun r => [r.cell]
  at' := fun P w r => RwOk 1048576 w r ∧ ∀ q, r.a = some q → P q.block
  len := fun _ => rfl
  one := fun r u hu => by rw [List.mem_singleton.1 hu]; rfl
  keep := fun {P X w w' r} h hk hn => ⟨⟨h.1.1.keep hk (fun q hq => hn _ (h.2 q hq)), h.1.2⟩, h.2⟩
  mono := fun h hm => ⟨h.1, fun q hq => hm _ (h.2 q hq)⟩
/-- the same contents, wherever they lie -/
def slEq {α : Type} (R : α → α → Prop) (s t : SlD α) : Prop := s.n = t.n ∧ ∀ i, i < s.n → R (s.x i) (t.x i)
def rwEq (r s : RwD) : Prop := r.z = s.z
end Go.Proofs.YtbjbjgfjaopibaaDoor
end

section
/- Laws at single operations of a region. No program in sight. -/
namespace Go.Proofs.YtbjbjgfjaopibaaDoor
open Go Go.RowKit
set_option linter.unusedSimpArgs false
set_option linter.unusedVariables false

theorem wp_appI {P : Program} {w w' : World} {o : Oper} {a : Act} {K : Act → World → Prop} {Q : Exit → Act → World → Prop} (s x : Operand) (t : TypeId)
    (ho : o.op = .call { callee := .builtin .append, args := #[s, x], argTypes := #[t, t] }) {v1 v2 v' : Value} (hs : a.eval s = v1) (hx : a.eval x = v2)
    (hrun : (Builtin.append_ #[t, t] o.type #[v1, v2]).run P w = .ok v' w') (h : K (a.put o.dst v') w') : o.wp P a w K Q := by
  unfold Oper.wp
  simp [execOp, ho, resolve, invoke, builtin, hs, hx, hrun, Result.andThen]
  exact h
/-- '==' at the list of a region's operations -/
theorem wpl_eql {P : Program} {w : World} {ops : Array Oper} {rest : List Oper} {o : Oper} {a : Act} {Q : Exit → Act → World → Prop} (hgd : o.guard = none) (t ty : TypeId) (x y : Operand) (ho : o.op = .binOp .eql t x y ty) {va vb : Value} {b : Bool}
    (hx : a.eval x = va) (hy : a.eval y = vb) (hg : (eqGuard .eql t x y va vb).run P w = .ok () w) (hr : (binOp .eql t va vb).run P w = .ok (.bool b) w) (h : wpList P ops Q rest (a.put o.dst (.bool b)) w) : wpList P ops Q (o :: rest) a w := by
  refine wpList_plain hgd fun K hK' => ?_
  have e : (execOp a.eval o).run P w = .ok (.value (.bool b)) w := by
    unfold execOp
    rw [ho]
    simp only [hx, hy, Sem.run_bind, hg, hr, Result.andThen_ok, Sem.run_pure]
  unfold Oper.wp
  rw [e]
  exact hK' _ _ h
theorem wpl_load_midG {P : Program} {ops : Array Oper} {rest : List Oper} {op : Oper} {a : Act} {w : World} {Q : Exit → Act → World → Prop} (hw : Region.wanted op (yielded ops a.tmps) = true) (ty : TypeId) (x : Operand) (ho : op.op = .load ty x)
    (b o : Nat) (hx : a.eval x = .pointer (some ⟨b, o, none⟩)) (cs : List Value) (d : TypeDesc) (hc : w.rangeAt b o cs)
    (hu : P.underlying ty = some d) (hd : d.isRow = true) (hi : (P.info? ty).map (·.size) = some cs.length)
    (h : wpList P ops Q rest (a.put op.dst (.agg cs.toArray)) w) : wpList P ops Q (op :: rest) a w :=
  wpList_wanted hw fun _ hK => wp_load_mid ty x ho b o hx cs d hc hu hd hi (hK _ _ h)
/-- a function's two results: a struct in a cell, and a value -/
theorem results_cell_tmp {P : Program} {fn : Func} {p u : Tmp} {ty : TypeId} (h : fn.results = #[.cell p ty, .tmp u]) (tmps : Array Value) (w : World) (g : Nat) (t : TypeId) (cs : Array Value) (fr : Nat × Nat) (d : TypeDesc)
    (hp : tmps.getD p undef = .pointer (some ⟨g, 0, none⟩)) (hg : w.heap[g]? = some (.cells cs t fr))
    (hu : P.underlying ty = some d) (hd : (match d with | .struct _ | .array _ _ => true | _ => false) = true) (hi : (P.info? ty).map (·.size) = some cs.size) :
    (results fn tmps).run P w = .ok (.tuple #[.agg cs, tmps.getD u undef]) w := by
  have hp' : tmps[p]?.getD undef = .pointer (some ⟨g, 0, none⟩) := by simpa using hp
  simp [results, h, hp', asAddr, run_loadVar_row w g t ty cs fr d hg hu hd hi]
end Go.Proofs.YtbjbjgfjaopibaaDoor
end

section
/- Lists that grow by append, the block of their elements told; pairs of keys and values. -/
namespace Go.Proofs.YtbjbjgfjaopibaaDoor
open Go Go.RowKit
set_option linter.unusedSimpArgs false
set_option linter.unusedVariables false
set_option maxRecDepth 100000

section
variable {α : Type} {K : EKind α} {w w' : World} {G : Nat} {o : Option Nat} {v : Value} {X : List α} {e : TypeId}
/-- a list that grows by append; o: where its elements lie -/
def LstO (K : EKind α) (e : TypeId) (w : World) (G : Nat) (o : Option Nat) (v : Value) (X : List α) : Prop :=
  RowV w e K.k v X.length (X.flatMap K.cs) o ∧ (∀ g, o = some g → G ≤ g) ∧ ∀ x ∈ X, K.at' (fun b => G ≤ b ∧ b < w.heap.size ∧ o ≠ some b) w x
theorem LstO.nil (K : EKind α) (e : TypeId) (w : World) (G : Nat) : LstO K e w G none (.slice none 0 0) [] := ⟨RowV.nil _ _ _, fun g hg => (by cases hg), fun x hx => (by cases hx)⟩
theorem LstO.lst (h : LstO K e w G o v X) : LstAt K e w G v X := ⟨o, h⟩
theorem LstO.keep {Y : Nat → Prop} (h : LstO K e w G o v X) (hk : Keep Y w w') (hn : ∀ b, G ≤ b → b < w.heap.size → ¬ Y b) : LstO K e w' G o v X :=
  ⟨h.1.keep hk (fun g hg => hn g (h.2.1 g hg) (h.1.lt g hg)), h.2.1, fun x hx => K.mono (K.keep (h.2.2 x hx) hk (fun b hb => hn b hb.1 hb.2.1)) (fun b hb => ⟨hb.1, Nat.lt_of_lt_of_le hb.2.1 hk.size, hb.2.2⟩)⟩
theorem LstO.more (h : LstO K e w G o v X) (hb : Below w.heap.size w w') : LstO K e w' G o v X := h.keep (Y := fun _ => False) (Keep.of_below hb) (fun _ _ _ h => h)
theorem LstO.base {G' : Nat} (h : LstO K e w G o v X) (hG : G' ≤ G) : LstO K e w G' o v X := ⟨h.1, fun g hg => Nat.le_trans hG (h.2.1 g hg), fun x hx => K.mono (h.2.2 x hx) (fun b hb => ⟨Nat.le_trans hG hb.1, hb.2⟩)⟩
theorem LstO.lt (h : LstO K e w G o v X) : ∀ g, o = some g → g < w.heap.size := h.1.lt
/-- an element put behind, that lies elsewhere -/
theorem LstO.add {P : Program} {i : TypeInfo} {z : Value} {by1 : Nat} (t : TypeId) (ht : P.underlying t = some (.slice e)) (hi : P.info? e = some i) (hz : i.zero = some z) (hs : i.size = K.k) (hby : i.bytes = by1) (hzs : z.cells.size = K.k) (hk : 0 < K.k)
    (h : LstO K e w G o v X) (hG : G ≤ w.heap.size) {x : α} (hx : K.at' (fun b => G ≤ b ∧ b < w.heap.size ∧ o ≠ some b) w x) (hmax : X.length + 1 ≤ maxLen) (hby2 : (X.length + 1) * by1 ≤ 140737488355328) :
    ∃ q n c w' o', v = .slice q X.length n ∧ (Builtin.append_ #[t, t] t #[v, .slice (some ⟨w.heap.size, 0, none⟩) 1 1]).run P (w.alloc (.cells (K.cs x).toArray e)) = .ok c w' ∧ LstO K e w' G o' c (X ++ [x]) ∧ Keep (fun k => o = some k) w w' ∧ (o' = o ∨ ∃ g, o' = some g ∧ w.heap.size ≤ g) := by
  obtain ⟨h1, h2, h3⟩ := h
  obtain ⟨q, n, rfl, _⟩ := h1.form
  have ka := (Keep.refl (fun _ => False) w).alloc (.cells (K.cs x).toArray e)
  have rv := h1.keep ka (fun _ _ h => h)
  have hsz : (w.alloc (.cells (K.cs x).toArray e)).heap.size = w.heap.size + 1 := by simp
  have hlt : ∀ g, o = some g → g < w.heap.size := fun g hg => h1.lt g hg
  obtain ⟨v', w', g', r1, r2, r3, r4⟩ := rowV_append (P := P) t t i z ht hi hz hs hby hzs hk rv (a := ⟨w.heap.size, 0, none⟩) (m := 1) (c := 1) (news := K.cs x) (by rw [K.len, Nat.one_mul]) (fun j u hu => by
    rw [Addr.add_lit, Nat.zero_add, (Blk.new w (K.cs x).toArray e).cell, List.getElem?_toArray]; exact hu) (K.one x) (by decide) hmax hby2
  have e5 : (X ++ [x]).length = X.length + 1 := by simp
  have hsize := r4.size
  have hnew : ∀ b, b < w.heap.size → o ≠ some b → some g' ≠ some b := fun b hb hne e => by
    cases e
    rcases r3 with h | h
    · exact hne h
    · rw [hsz] at h; omega
  have hel : ∀ y, K.at' (fun b => G ≤ b ∧ b < w.heap.size ∧ o ≠ some b) w y → K.at' (fun b => G ≤ b ∧ b < w'.heap.size ∧ some g' ≠ some b) w' y := fun y hy =>
    K.mono (K.keep (K.keep hy ka (fun _ _ h => h)) r4 (fun b hb' => hb'.2.2)) (fun b hb' => ⟨hb'.1, by have := hb'.2.1; omega, hnew b hb'.2.1 hb'.2.2⟩)
  refine ⟨q, n, v', w', some g', rfl, r1, ⟨?_, fun g hg => ?_, fun y hy => ?_⟩, (ka.mono (fun _ h => h.elim)).trans r4, ?_⟩
  · rw [e5, List.flatMap_append, List.flatMap_singleton]; exact r2
  · cases hg
    rcases r3 with h | h
    · exact h2 _ h
    · rw [hsz] at h; omega
  · rcases List.mem_append.1 hy with hy | hy
    · exact hel y (h3 y hy)
    · rw [List.mem_singleton.1 hy]; exact hel x hx
  · rcases r3 with h | h
    · exact .inl h.symm
    · exact .inr ⟨g', rfl, by rw [hsz] at h; omega⟩
end
end Go.Proofs.YtbjbjgfjaopibaaDoor
end
