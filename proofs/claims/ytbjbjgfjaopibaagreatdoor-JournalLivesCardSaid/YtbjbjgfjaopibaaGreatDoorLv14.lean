import Derived.Test.YtbjbjgfjaopibaaGreatDoorLv13
import Derived.Test.YtbjbjgfjaopibaaGreatDoorRows
import Derived.Test.YtbjbjgfjaopibaaGreatDoorLv2
import Derived.Deep.LoopGhost
import Derived.Lib.AppendZeros
section
/- journal.Open, walked. -/
namespace Go.Proofs.YtbjbjgfjaopibaaGreatDoor
open Go Go.RowKit
set_option linter.unusedSimpArgs false
set_option linter.unusedVariables false
set_option maxRecDepth 100000

/-- a part of bytes, from the k-th on -/
theorem bytes_drop {w : World} {q : Option Addr} {xs : List Int} {k : Nat} (h : Lib.BytesIn w q xs.length xs) (hk : k ≤ xs.length) {q' : Option Addr} (hq : k < xs.length → ∃ b o, q = some ⟨b, o, none⟩ ∧ q' = some ⟨b, o + k, none⟩) : Lib.BytesIn w q' (xs.drop k).length (xs.drop k) := fun h0 => by
  rw [List.length_drop] at h0 ⊢
  obtain ⟨b, o, e1, hc⟩ := h.at (by omega)
  obtain ⟨b', o', e2, e3⟩ := hq (by omega)
  rw [e1] at e2; cases e2
  refine ⟨b, o + k, e3, fun i hi => ?_⟩
  rw [Nat.add_assoc, hc (k + i) (by omega)]
  simp [List.getD_eq_getElem?_getD, List.getElem?_drop]
theorem Glob.keepN {X : Nat → Prop} {w w' : World} (g : Glob w) (hk : Keep X w w') (hx : ∀ k, X k → k ≠ 0 ∧ k ≠ 1) : Glob w' :=
  ⟨fun i hi => (hk.cell (p := ⟨0, i, none⟩) (cell_lt (g.1 i hi)) (fun e => (hx _ e).1 rfl)).trans (g.1 i hi), fun i hi => (hk.cell (p := ⟨1, i, none⟩) (cell_lt (g.2 i hi)) (fun e => (hx _ e).2 rfl)).trans (g.2 i hi)⟩
/-- what 'Open' answers, of a tape that a call made -/
def OpenPost (p : Nat) (xs : List Int) (sy ro fu : Int) (o : Option Nat) (w : World) (e : Ending) (w' : World) : Prop :=
  ∃ (DB : List BatD) (r : List Int), (∀ x ∈ DB, Fit x) ∧ Byt r ∧ (∀ x s, Fit x → r ≠ frmX x ++ s) ∧ xs = DB.flatMap frmX ++ r ∧ Keep (foot p o) w w' ∧
    ((r ≠ [] ∧ fu = 0 ∧ e = .returned (.tuple #[.pointer none, .int .i64 150]) ∧ TapeAt w' p xs sy ro 0 o) ∨
     (¬ (r ≠ [] ∧ fu = 0) ∧ ∃ j b, e = .returned (.tuple #[.pointer (some ⟨j, 0, none⟩), .int .i64 0]) ∧ w.heap.size ≤ j ∧ w.heap.size ≤ b ∧ JAt (fun g => w.heap.size ≤ g ∧ g ≠ j ∧ g ≠ b) w' j b p (doAll [] DB) DB.length false ∧
        TapeAt w' p (DB.flatMap frmX) (if r = [] then sy else ((DB.flatMap frmX).length : Int)) ro (if r = [] then fu else burn fu) o))
set_option maxHeartbeats 12800000 in
theorem jopen (p : Nat) (xs : List Int) (sy ro fu : Int) (o : Option Nat) (w : World) (G : Glob w) (hT : TapeAt w p xs sy ro fu o) (hb : Byt xs) (hl : xs.length ≤ 16777216) (hf0 : -1 ≤ fu) (hf1 : fu ≤ 9223372036854775807) (hTG : ∀ x, foot p o x → x ≠ 0 ∧ x ≠ 1) :
    Calls Tryz.prog 10 #[.pointer (some ⟨p, 0, none⟩)] w (OpenPost p xs sy ro fu o w) := by
  have PR := Lib.hid (troom p xs sy ro fu (-1) o w hT)
  have HG := Lib.hid (And.intro G (And.intro hb (And.intro hl (And.intro hf0 (And.intro hf1 (And.intro hT.lt hTG))))))
  clear G hb hf0 hf1 hT hTG
  go_enter Tryz.func10, Tryz.ntmps10
  go_wp2_with fail
  refine PR.out.mono ?_
  rintro e w1 ⟨rfl, hT1, k1⟩
  rw [show roomE (-1) = 1 from rfl]
  have hro : roomN (-1) ro = ro := by unfold roomN; rw [if_pos (.inl (by decide))]
  rw [hro] at hT1
  have HT1 := Lib.hid (And.intro hT1 k1)
  clear hT1 k1 hro
  go_upto_region 4 with (refine wpl_makeMap rfl _ rfl ?_)
  have J0 : JAt (fun g => w.heap.size ≤ g ∧ g ≠ w1.heap.size + 1 ∧ g ≠ w1.heap.size) ((w1.alloc (.map #[] 0)).alloc (.cells #[.pointer (some ⟨p, 0, none⟩), .map (some w1.heap.size), .int .i64 0, .bool false] 74)) (w1.heap.size + 1) w1.heap.size p [] 0 false := by
    have b0 := Blk.new (w1.alloc (.map #[] 0)) #[.pointer (some ⟨p, 0, none⟩), .map (some w1.heap.size), .int .i64 0, .bool false] 74
    rw [show (w1.alloc (.map #[] 0)).heap.size = w1.heap.size + 1 from by simp] at b0
    exact ⟨b0, (JMap.made _ w1).keep (X := fun _ => False) ((Keep.refl _ _).alloc _) (fun h => h) (fun _ _ _ h => h), by omega, fun g hg => ⟨hg.2.1, hg.2.2⟩⟩
  have hk2 : Keep (fun _ => False) w1 ((w1.alloc (.map #[] 0)).alloc (.cells #[.pointer (some ⟨p, 0, none⟩), .map (some w1.heap.size), .int .i64 0, .bool false] 74)) := ((Keep.refl _ w1).alloc _).alloc _
  have hs1 : w.heap.size ≤ w1.heap.size := HT1.out.2.size
  obtain ⟨j, hj⟩ : ∃ j, j = w1.heap.size + 1 := ⟨_, rfl⟩
  obtain ⟨b, hb⟩ : ∃ b, b = w1.heap.size := ⟨_, rfl⟩
  have HJB := Lib.hid (And.intro hj (And.intro hb hs1))
  rw [← hj] at J0 ⊢
  rw [← hb] at J0 hk2 ⊢
  generalize (w1.alloc (.map #[] 0)).alloc (.cells #[.pointer (some ⟨p, 0, none⟩), .map (some b), .int .i64 0, .bool false] 74) = w2 at *
  have T2 := HT1.out.1.keep hk2 (fun _ _ h => h)
  have PB := tbytes p xs sy ro fu o w2 T2 (by omega)
  have HJ2 := Lib.hid (And.intro J0 (And.intro hk2 T2))
  obtain ⟨L, hL⟩ : ∃ L, L = xs.length := ⟨_, rfl⟩
  rw [← hL] at PB hl
  have HL := Lib.hid hL
  have PB := Lib.hid PB
  clear J0 hk2 T2 hj hb hs1 hL
  go_upto_region 5 with fail
  refine PB.out.mono ?_
  rintro e w3 ⟨q, c, oA, rfl, R3, hoA, hb3⟩
  obtain ⟨q0, c0, e3, hyA, hLc, hcm, hqf⟩ := R3.form
  injection e3 with h1 h2 h3
  subst h1
  subst h3
  clear h2
  rw [← HL.out] at hyA hLc
  have hcm : c ≤ 9223372036854775807 := by unfold maxLen at hcm; omega
  have hj2 : w2.heap.size ≤ w3.heap.size := hb3.size
  have hjb2 : j < w2.heap.size ∧ b < w2.heap.size := HJ2.out.1.lt
  have hg0 : w.heap.size ≤ j ∧ w.heap.size ≤ b := by have := HJB.out; omega
  have kw3 : Keep (foot p o) w w3 := (HT1.out.2.trans (HJ2.out.2.1.mono (fun _ h => h.elim))).trans (Keep.of_below hb3)
  have H3 := Lib.hid (And.intro (HJ2.out.1.more hb3) (And.intro (HJ2.out.2.2.keep (Keep.of_below (X := fun _ => False) hb3) (fun _ _ h => h)) (And.intro kw3 (And.intro hyA (And.intro hoA (And.intro hj2 (And.intro hjb2 (And.intro hg0 hqf))))))))
  clear hyA hoA hj2 hjb2 hg0 kw3 R3 hb3 hqf PB PR
  go_wp2
  go_loopg [6] L (fun gh at' wx => ∃ (k : Nat) (DB : List BatD), at' = .int .i64 (k : Int) ∧ gh = L - k ∧ k ≤ L ∧ Hid (JAt (fun g => w.heap.size ≤ g ∧ g ≠ j ∧ g ≠ b) wx j b p (doAll [] DB) DB.length false ∧ Keep (fun g => g = j ∨ g = b) w3 wx ∧ (∀ x ∈ DB, Fit x) ∧ xs = DB.flatMap frmX ++ xs.drop k ∧ (DB.flatMap frmX).length = k))
  case atStart => exact ⟨0, [], rfl, rfl, Nat.zero_le _, H3.out.1, Keep.refl _ _, fun x hx => (by cases hx), rfl, rfl⟩
  case round =>
    obtain ⟨k, DB, rfl, hg, hkL, HK⟩ := hrel
    have HGK := Lib.hid hg
    clear hg
    have hkL' : (k : Int) ≤ (L : Int) := by omega
    have hdl : (xs.drop k).length = L - k := by rw [List.length_drop, ← HL.out]
    have hjl := HK.out.2.1.size
    have hGr : Glob wr := (HG.out.1.keepN H3.out.2.2.1 HG.out.2.2.2.2.2.2).keepX HK.out.2.1 HG.out.1.lt (fun x hx => by have := H3.out.2.2.2.2.2.2.2.1; omega)
    have PF : ∀ q' n' c', n' = L - k → Lib.BytesIn wr q' (xs.drop k).length (xs.drop k) → n' ≤ c' → c' ≤ 9223372036854775807 → Calls Tryz.prog 34 #[.slice q' n' c'] wr (FrmPost (xs.drop k) q' wr) := fun q' n' c' h0 h1 h2 h3 => by
      have := pframe (xs.drop k) q' c' wr hGr h1 (HG.out.2.1.drop k) (by rw [hdl, ← h0]; exact h2) h3 (by rw [hdl]; omega)
      rw [hdl, ← h0] at this; exact this
    have HPF := Lib.hid PF
    clear PF hGr
    rcases H3.out.2.2.2.2.2.2.2.2 with ⟨rfl, hL0, rfl, hoN⟩ | ⟨g3, hoN, rfl, hg3⟩
    · have hL00 : L = 0 := by rw [HL.out, hL0]; rfl
      have hdn : xs.drop k = [] := by rw [hL0]; simp
      clear hL0
      subst hL00
      obtain rfl : k = 0 := by omega
      go_upto_region 7 with fail
      refine (HPF.out none 0 0 rfl (by rw [hdn]; exact fun h => absurd h (Nat.lt_irrefl _)) (Nat.le_refl _) (by decide)).mono ?_
      rintro e WE ⟨hb5, hcase⟩
      rw [hdn] at hcase
      obtain ⟨v, rfl⟩ : ∃ v, e = .returned (.tuple #[v, .bool false]) := by
        rcases hcase with ⟨_, v, h⟩ | ⟨_, _, _, h, _⟩
        · exact ⟨v, h⟩
        · cases h
      have HEX := Lib.hid (And.intro (HK.out.1.more hb5) (And.intro (HK.out.2.1.trans (Keep.of_below hb5)) (And.intro (show ∀ x s, Fit x → xs.drop 0 ≠ frmX x ++ s from by rw [hdn]; exact nil_none) (And.intro HK.out.2.2.1 (And.intro HK.out.2.2.2.1 HK.out.2.2.2.2)))))
      clear hcase hb5
      have hnil : xs.drop 0 = [] := List.drop_eq_nil_of_le (by rw [← HL.out]; omega)
      have hft : ∀ x, foot p o x → ¬ (x = j ∨ x = b) := fun x hx e => by have := HG.out.2.2.2.2.2.1 x hx; have := H3.out.2.2.2.2.2.2.2.1; omega
      have TE := H3.out.2.1.keep HEX.out.2.1 hft
      have hxs : xs = DB.flatMap frmX := by have := HEX.out.2.2.2.2.1; rw [hnil, List.append_nil] at this; exact this
      have hkp : Keep (foot p o) w WE := H3.out.2.2.1.trans' HEX.out.2.1 (fun x hx => by have := H3.out.2.2.2.2.2.2.2.1; omega)
      have HF := Lib.hid (And.intro TE (And.intro hnil (And.intro hxs hkp)))
      have hge : decide ((0 : Int) < (0 : Int)) = false := decide_eq_false (by omega)
      clear TE hnil hxs hkp hft
      go_wp2
      exact bodyPost_ret (results_tmp2 Tryz.results10 _ _ _) rfl ⟨DB, [], HEX.out.2.2.2.1, Byt.nil, nil_none, by rw [List.append_nil]; exact HF.out.2.2.1, HF.out.2.2.2, .inr ⟨fun h => h.1 rfl, j, b, rfl, H3.out.2.2.2.2.2.2.2.1.1, H3.out.2.2.2.2.2.2.2.1.2, HEX.out.1, by rw [if_pos rfl, if_pos rfl, ← HF.out.2.2.1]; exact HF.out.1⟩⟩
    · by_cases hkc : c = k
      · obtain rfl : L = k := by omega
        have hdn : xs.drop L = [] := List.drop_eq_nil_of_le (by rw [← HL.out]; exact Nat.le_refl _)
        subst hkc
        go_upto_region 7 with fail
        refine (HPF.out _ 0 0 (by omega) (by rw [hdn]; exact fun h => absurd h (Nat.lt_irrefl _)) (Nat.le_refl _) (by decide)).mono ?_
        rintro e WE ⟨hb5, hcase⟩
        rw [hdn] at hcase
        obtain ⟨v, rfl⟩ : ∃ v, e = .returned (.tuple #[v, .bool false]) := by
          rcases hcase with ⟨_, v, h⟩ | ⟨_, _, _, h, _⟩
          · exact ⟨v, h⟩
          · cases h
        have HEX := Lib.hid (And.intro (HK.out.1.more hb5) (And.intro (HK.out.2.1.trans (Keep.of_below hb5)) (And.intro (show ∀ x s, Fit x → xs.drop c ≠ frmX x ++ s from by rw [hdn]; exact nil_none) (And.intro HK.out.2.2.1 (And.intro HK.out.2.2.2.1 HK.out.2.2.2.2)))))
        clear hcase hb5
        have hnil : xs.drop c = [] := List.drop_eq_nil_of_le (by rw [← HL.out]; omega)
        have hft : ∀ x, foot p o x → ¬ (x = j ∨ x = b) := fun x hx e => by have := HG.out.2.2.2.2.2.1 x hx; have := H3.out.2.2.2.2.2.2.2.1; omega
        have TE := H3.out.2.1.keep HEX.out.2.1 hft
        have hxs : xs = DB.flatMap frmX := by have := HEX.out.2.2.2.2.1; rw [hnil, List.append_nil] at this; exact this
        have hkp : Keep (foot p o) w WE := H3.out.2.2.1.trans' HEX.out.2.1 (fun x hx => by have := H3.out.2.2.2.2.2.2.2.1; omega)
        have HF := Lib.hid (And.intro TE (And.intro hnil (And.intro hxs hkp)))
        have hge : decide ((c : Int) < (c : Int)) = false := decide_eq_false (by omega)
        clear TE hnil hxs hkp hft
        go_wp2
        exact bodyPost_ret (results_tmp2 Tryz.results10 _ _ _) rfl ⟨DB, [], HEX.out.2.2.2.1, Byt.nil, nil_none, by rw [List.append_nil]; exact HF.out.2.2.1, HF.out.2.2.2, .inr ⟨fun h => h.1 rfl, j, b, rfl, H3.out.2.2.2.2.2.2.2.1.1, H3.out.2.2.2.2.2.2.2.1.2, HEX.out.1, by rw [if_pos rfl, if_pos rfl, ← HF.out.2.2.1]; exact HF.out.1⟩⟩
      · have hg3j : ¬ (g3 = j ∨ g3 = b) := fun e => by have := H3.out.2.2.2.2.1 _ hoN; have := H3.out.2.2.2.2.2.2.1; omega
        have hyk : Lib.BytesIn wr (some ⟨g3, 0, none⟩) xs.length xs := by
          have := bytes_keep H3.out.2.2.2.1 HK.out.2.1 (fun _ q hq e => by cases hq; exact hg3j e)
          rw [HL.out] at this; exact this
        have hyd : Lib.BytesIn wr (some ⟨g3, k, none⟩) (xs.drop k).length (xs.drop k) := bytes_drop hyk (by rw [← HL.out]; exact hkL) (fun _ => ⟨g3, 0, rfl, by rw [Nat.zero_add]⟩)
        have HYD := Lib.hid hyd
        clear hyk hyd
        go_upto_region 7 with fail
        refine (HPF.out _ (L - k) (c - k) rfl HYD.out (by omega) (by omega)).mono ?_
        rintro e WE ⟨hb5, hcase⟩
        rcases hcase with ⟨hn5, v, rfl⟩ | ⟨bd, p5, c5, hsm, rfl, hyb, hbc, hcm5⟩
        · have HEX := Lib.hid (And.intro (HK.out.1.more hb5) (And.intro (HK.out.2.1.trans (Keep.of_below hb5)) (And.intro (frm_none (HG.out.2.1.drop k) hn5) (And.intro HK.out.2.2.1 (And.intro HK.out.2.2.2.1 HK.out.2.2.2.2)))))
          clear hb5 hn5
          by_cases hlt : k < L
          · skip
            have hlt' : (k : Int) < (L : Int) := by omega
            have hne : xs.drop k ≠ [] := fun e => by have := congrArg List.length e; rw [List.length_drop, ← HL.out] at this; simp at this; omega
            have hft : ∀ x, foot p o x → ¬ (x = j ∨ x = b) := fun x hx e => by have := HG.out.2.2.2.2.2.1 x hx; have := H3.out.2.2.2.2.2.2.2.1; omega
            have TE := H3.out.2.1.keep HEX.out.2.1 hft
            have PCut := Lib.hid (tcut p xs sy ro fu (k : Int) o WE TE HG.out.2.2.1 HG.out.2.2.2.1 HG.out.2.2.2.2.1)
            have hcE : cutE (k : Int) xs.length fu = if fu = 0 then 150 else 0 := by unfold cutE; rw [if_neg (by rw [← HL.out]; omega)]; rfl
            have htk : xs.take k = DB.flatMap frmX := by rw [HEX.out.2.2.2.2.1]; exact List.take_left' HEX.out.2.2.2.2.2
            have hkp : ∀ wx, Keep (foot p o) WE wx → Keep (foot p o) w wx := fun wx hx => (H3.out.2.2.1.trans' HEX.out.2.1 (fun x hx => by have := H3.out.2.2.2.2.2.2.2.1; omega)).trans hx
            have hja : ∀ wx, Keep (foot p o) WE wx → JAt (fun g => w.heap.size ≤ g ∧ g ≠ j ∧ g ≠ b) wx j b p (doAll [] DB) DB.length false := fun wx hx => HEX.out.1.keep hx (fun h => hft _ h (.inl rfl)) (fun h => hft _ h (.inr rfl)) (fun g hg _ h => by have := HG.out.2.2.2.2.2.1 g h; omega)
            have HEN := Lib.hid (And.intro hne (And.intro htk (And.intro hkp (And.intro hja hft))))
            clear TE hne htk hkp hja hft
            go_upto_region 14 with fail
            refine PCut.out.mono ?_
            rintro e w9 ⟨rfl, T9, k9⟩
            rw [hcE]
            by_cases hfu : fu = 0
            · have hT9 : TapeAt w9 p xs sy ro 0 o := by
                have e1 : cutB xs (k : Int) fu = xs := if_pos (.inr (.inr hfu))
                have e2 : cutS xs sy (k : Int) fu = sy := if_pos (.inr (.inr hfu))
                have e3 : cutF xs.length (k : Int) fu = 0 := by unfold cutF; rw [if_neg (by rw [← HL.out]; omega), hfu]; rfl
                rw [e1, e2, e3] at T9; exact T9
              rw [if_pos hfu]
              have HF := Lib.hid (And.intro hT9 k9)
              clear hT9 k9 T9
              go_wp2
              exact bodyPost_ret (results_tmp2 Tryz.results10 _ _ _) rfl ⟨DB, xs.drop k, HEX.out.2.2.2.1, HG.out.2.1.drop k, HEX.out.2.2.1, HEX.out.2.2.2.2.1, HEN.out.2.2.1 _ HF.out.2, .inl ⟨HEN.out.1, hfu, rfl, HF.out.1⟩⟩
            · have hT9 : TapeAt w9 p (DB.flatMap frmX) ((DB.flatMap frmX).length : Int) ro (burn fu) o := by
                have e1 : cutB xs (k : Int) fu = DB.flatMap frmX := by unfold cutB; rw [if_neg (by rw [← HL.out]; omega), Int.toNat_natCast]; exact HEN.out.2.1
                have e2 : cutS xs sy (k : Int) fu = ((DB.flatMap frmX).length : Int) := by unfold cutS; rw [if_neg (by rw [← HL.out]; omega), HEX.out.2.2.2.2.2]
                have e3 : cutF xs.length (k : Int) fu = burn fu := by unfold cutF; rw [if_neg (by rw [← HL.out]; omega)]
                rw [e1, e2, e3] at T9; exact T9
              rw [if_neg hfu]
              have HF := Lib.hid (And.intro hT9 k9)
              clear hT9 k9 T9
              go_wp2
              exact bodyPost_ret (results_tmp2 Tryz.results10 _ _ _) rfl ⟨DB, xs.drop k, HEX.out.2.2.2.1, HG.out.2.1.drop k, HEX.out.2.2.1, HEX.out.2.2.2.2.1, HEN.out.2.2.1 _ HF.out.2, .inr ⟨fun h => hfu h.2, j, b, rfl, H3.out.2.2.2.2.2.2.2.1.1, H3.out.2.2.2.2.2.2.2.1.2, HEN.out.2.2.2.1 _ HF.out.2, by rw [if_neg HEN.out.1, if_neg HEN.out.1]; exact HF.out.1⟩⟩
          · obtain rfl : k = L := by omega
            have hnil : xs.drop k = [] := List.drop_eq_nil_of_le (by rw [← HL.out]; omega)
            have hft : ∀ x, foot p o x → ¬ (x = j ∨ x = b) := fun x hx e => by have := HG.out.2.2.2.2.2.1 x hx; have := H3.out.2.2.2.2.2.2.2.1; omega
            have TE := H3.out.2.1.keep HEX.out.2.1 hft
            have hxs : xs = DB.flatMap frmX := by have := HEX.out.2.2.2.2.1; rw [hnil, List.append_nil] at this; exact this
            have hkp : Keep (foot p o) w WE := H3.out.2.2.1.trans' HEX.out.2.1 (fun x hx => by have := H3.out.2.2.2.2.2.2.2.1; omega)
            have HF := Lib.hid (And.intro TE (And.intro hnil (And.intro hxs hkp)))
            have hge : decide ((k : Int) < (k : Int)) = false := decide_eq_false (by omega)
            clear TE hnil hxs hkp hft
            go_wp2
            exact bodyPost_ret (results_tmp2 Tryz.results10 _ _ _) rfl ⟨DB, [], HEX.out.2.2.2.1, Byt.nil, nil_none, by rw [List.append_nil]; exact HF.out.2.2.1, HF.out.2.2.2, .inr ⟨fun h => h.1 rfl, j, b, rfl, H3.out.2.2.2.2.2.2.2.1.1, H3.out.2.2.2.2.2.2.2.1.2, HEX.out.1, by rw [if_pos rfl, if_pos rfl, ← HF.out.2.2.1]; exact HF.out.1⟩⟩
        · have hbd := (rdFrm_iff (HG.out.2.1.drop k) bd).1 hsm
          have hbb : Byt bd := by
            obtain ⟨_, r5, e5⟩ := hbd
            have h5 := HG.out.2.1.drop k
            rw [e5] at h5
            exact (h5.left).right
          have PRd := Lib.hid (pread bd p5 c5 WE hyb hbb hbc hcm5 (by have := hbd.1; omega))
          have H5 := Lib.hid (And.intro hb5 (And.intro hsm hbd.1))
          have hb5s : wr.heap.size ≤ WE.heap.size := hb5.size
          have hbl : bd.length ≤ 1048576 := hbd.1
          clear hyb hbb hbd hb5 hsm
          obtain ⟨bl, hbln⟩ : ∃ bl, bl = bd.length := ⟨_, rfl⟩
          rw [← hbln] at PRd hbl hbc ⊢
          have HBL := Lib.hid hbln
          clear hbln
          go_wp2_with fail
          refine PRd.out.mono ?_
          rintro e w6 ⟨hb6, pq, dq, pl, pn, dl, dn, hcase⟩
          rcases hcase with ⟨hn6, rfl⟩ | ⟨X, Y, hsm6, rfl, ⟨hX, hpl⟩, ⟨hY, hdl6⟩, LX, LY⟩
          · have kx := (Below.refl w6.heap.size w6).alloc (Nat.le_refl _) (.cells #[.slice pq pl pn, .slice dq dl dn] 41)
            have HEX6 := Lib.hid (fun WE' (e : WE' = w6.alloc (.cells #[.slice pq pl pn, .slice dq dl dn] 41)) => show JAt (fun g => w.heap.size ≤ g ∧ g ≠ j ∧ g ≠ b) WE' j b p (doAll [] DB) DB.length false ∧ Keep (fun g => g = j ∨ g = b) w3 WE' ∧ (∀ x s, Fit x → xs.drop k ≠ frmX x ++ s) ∧ _ from by
              subst e
              have kk := (H5.out.1.trans (hb6.mono H5.out.1.size)).trans (kx.mono (Nat.le_trans H5.out.1.size hb6.size))
              exact And.intro (HK.out.1.more kk) (And.intro (HK.out.2.1.trans (Keep.of_below kk)) (And.intro (bat_none (HG.out.2.1.drop k) H5.out.2.1 hn6) (And.intro HK.out.2.2.1 (And.intro HK.out.2.2.2.1 HK.out.2.2.2.2)))))
            clear kx hn6 hb6
            go_upto_region 9 with fail
            generalize hWE : w6.alloc (.cells #[.slice pq pl pn, .slice dq dl dn] 41) = WF at *
            have HEX := Lib.hid (HEX6.out WF rfl)
            clear HEX6 hWE
            by_cases hlt : k < L
            · skip
              have hlt' : (k : Int) < (L : Int) := by omega
              have hne : xs.drop k ≠ [] := fun e => by have := congrArg List.length e; rw [List.length_drop, ← HL.out] at this; simp at this; omega
              have hft : ∀ x, foot p o x → ¬ (x = j ∨ x = b) := fun x hx e => by have := HG.out.2.2.2.2.2.1 x hx; have := H3.out.2.2.2.2.2.2.2.1; omega
              have TE := H3.out.2.1.keep HEX.out.2.1 hft
              have PCut := Lib.hid (tcut p xs sy ro fu (k : Int) o WF TE HG.out.2.2.1 HG.out.2.2.2.1 HG.out.2.2.2.2.1)
              have hcE : cutE (k : Int) xs.length fu = if fu = 0 then 150 else 0 := by unfold cutE; rw [if_neg (by rw [← HL.out]; omega)]; rfl
              have htk : xs.take k = DB.flatMap frmX := by rw [HEX.out.2.2.2.2.1]; exact List.take_left' HEX.out.2.2.2.2.2
              have hkp : ∀ wx, Keep (foot p o) WF wx → Keep (foot p o) w wx := fun wx hx => (H3.out.2.2.1.trans' HEX.out.2.1 (fun x hx => by have := H3.out.2.2.2.2.2.2.2.1; omega)).trans hx
              have hja : ∀ wx, Keep (foot p o) WF wx → JAt (fun g => w.heap.size ≤ g ∧ g ≠ j ∧ g ≠ b) wx j b p (doAll [] DB) DB.length false := fun wx hx => HEX.out.1.keep hx (fun h => hft _ h (.inl rfl)) (fun h => hft _ h (.inr rfl)) (fun g hg _ h => by have := HG.out.2.2.2.2.2.1 g h; omega)
              have HEN := Lib.hid (And.intro hne (And.intro htk (And.intro hkp (And.intro hja hft))))
              clear TE hne htk hkp hja hft
              go_upto_region 14 with fail
              refine PCut.out.mono ?_
              rintro e w9 ⟨rfl, T9, k9⟩
              rw [hcE]
              by_cases hfu : fu = 0
              · have hT9 : TapeAt w9 p xs sy ro 0 o := by
                  have e1 : cutB xs (k : Int) fu = xs := if_pos (.inr (.inr hfu))
                  have e2 : cutS xs sy (k : Int) fu = sy := if_pos (.inr (.inr hfu))
                  have e3 : cutF xs.length (k : Int) fu = 0 := by unfold cutF; rw [if_neg (by rw [← HL.out]; omega), hfu]; rfl
                  rw [e1, e2, e3] at T9; exact T9
                rw [if_pos hfu]
                have HF := Lib.hid (And.intro hT9 k9)
                clear hT9 k9 T9
                go_wp2
                exact bodyPost_ret (results_tmp2 Tryz.results10 _ _ _) rfl ⟨DB, xs.drop k, HEX.out.2.2.2.1, HG.out.2.1.drop k, HEX.out.2.2.1, HEX.out.2.2.2.2.1, HEN.out.2.2.1 _ HF.out.2, .inl ⟨HEN.out.1, hfu, rfl, HF.out.1⟩⟩
              · have hT9 : TapeAt w9 p (DB.flatMap frmX) ((DB.flatMap frmX).length : Int) ro (burn fu) o := by
                  have e1 : cutB xs (k : Int) fu = DB.flatMap frmX := by unfold cutB; rw [if_neg (by rw [← HL.out]; omega), Int.toNat_natCast]; exact HEN.out.2.1
                  have e2 : cutS xs sy (k : Int) fu = ((DB.flatMap frmX).length : Int) := by unfold cutS; rw [if_neg (by rw [← HL.out]; omega), HEX.out.2.2.2.2.2]
                  have e3 : cutF xs.length (k : Int) fu = burn fu := by unfold cutF; rw [if_neg (by rw [← HL.out]; omega)]
                  rw [e1, e2, e3] at T9; exact T9
                rw [if_neg hfu]
                have HF := Lib.hid (And.intro hT9 k9)
                clear hT9 k9 T9
                go_wp2
                exact bodyPost_ret (results_tmp2 Tryz.results10 _ _ _) rfl ⟨DB, xs.drop k, HEX.out.2.2.2.1, HG.out.2.1.drop k, HEX.out.2.2.1, HEX.out.2.2.2.2.1, HEN.out.2.2.1 _ HF.out.2, .inr ⟨fun h => hfu h.2, j, b, rfl, H3.out.2.2.2.2.2.2.2.1.1, H3.out.2.2.2.2.2.2.2.1.2, HEN.out.2.2.2.1 _ HF.out.2, by rw [if_neg HEN.out.1, if_neg HEN.out.1]; exact HF.out.1⟩⟩
            · obtain rfl : k = L := by omega
              have hnil : xs.drop k = [] := List.drop_eq_nil_of_le (by rw [← HL.out]; omega)
              have hft : ∀ x, foot p o x → ¬ (x = j ∨ x = b) := fun x hx e => by have := HG.out.2.2.2.2.2.1 x hx; have := H3.out.2.2.2.2.2.2.2.1; omega
              have TE := H3.out.2.1.keep HEX.out.2.1 hft
              have hxs : xs = DB.flatMap frmX := by have := HEX.out.2.2.2.2.1; rw [hnil, List.append_nil] at this; exact this
              have hkp : Keep (foot p o) w WF := H3.out.2.2.1.trans' HEX.out.2.1 (fun x hx => by have := H3.out.2.2.2.2.2.2.2.1; omega)
              have HF := Lib.hid (And.intro TE (And.intro hnil (And.intro hxs hkp)))
              have hge : decide ((k : Int) < (k : Int)) = false := decide_eq_false (by omega)
              clear TE hnil hxs hkp hft
              go_wp2
              exact bodyPost_ret (results_tmp2 Tryz.results10 _ _ _) rfl ⟨DB, [], HEX.out.2.2.2.1, Byt.nil, nil_none, by rw [List.append_nil]; exact HF.out.2.2.1, HF.out.2.2.2, .inr ⟨fun h => h.1 rfl, j, b, rfl, H3.out.2.2.2.2.2.2.2.1.1, H3.out.2.2.2.2.2.2.2.1.2, HEX.out.1, by rw [if_pos rfl, if_pos rfl, ← HF.out.2.2.1]; exact HF.out.1⟩⟩
          · obtain ⟨okX, inX⟩ := batL_ok (G := WE.heap.size) (by rw [← hpl]; exact LX) (by rw [← hdl6]; exact LY) hX hY
            have kx := (Below.refl w6.heap.size w6).alloc (Nat.le_refl _) (.cells #[.slice pq pl pn, .slice dq dl dn] 41)
            have k56 : Below wr.heap.size wr w6 := H5.out.1.trans (hb6.mono H5.out.1.size)
            have k57 := k56.trans (kx.mono k56.size)
            have bx := Blk.new w6 #[.slice pq pl pn, .slice dq dl dn] 41
            have hwr : w3.heap.size ≤ wr.heap.size := HK.out.2.1.size
            have h7s : (w6.alloc (.cells #[.slice pq pl pn, .slice dq dl dn] 41)).heap.size = w6.heap.size + 1 := by simp
            have hfr := frm_some (HG.out.2.1.drop k) H5.out.2.1 hsm6
            have hfl : (frmX ⟨X.map pairX, Y.map bsK⟩).length = 12 + bl := by unfold frmX; rw [frmB_len, ← hfr.2.1, HBL.out]
            have hkb : k + (12 + bl) ≤ L := by
              have h1 := congrArg List.length hfr.2.2
              rw [List.length_append, hfl] at h1
              omega
            have hsr : Srt (doAll [] DB) := Srt.nil.doAll DB
            have hll := doAll_le DB [] Srt.nil
            rw [HK.out.2.2.2.2] at hll
            have hnl := flat_frm_len DB
            rw [HK.out.2.2.2.2] at hnl
            have J7 := HK.out.1.more k57
            have PD := pdo j b (.pointer (some ⟨p, 0, none⟩)) (.bool false) DB.length (doAll [] DB) (fun g => w.heap.size ≤ g ∧ g ≠ j ∧ g ≠ b) (batL pq pn X dq dn Y) (w6.alloc (.cells #[.slice pq pl pn, .slice dq dl dn] 41)) J7.1 J7.2.1 hsr (by show (doAll [] DB).length + X.length ≤ _; simp at hll; omega) (by omega) J7.2.2.2 J7.2.2.1 (okX.below kx) (inX.mono (fun x hx => by have := H3.out.2.2.2.2.2.2.1; have := H3.out.2.2.2.2.2.1; omega))
            change Calls Tryz.prog 36 #[.pointer (some ⟨j, 0, none⟩), .agg #[.slice pq X.length pn, .slice dq Y.length dn]] _ _ at PD
            rw [← hpl, ← hdl6] at PD
            have H7 := Lib.hid (And.intro k57 (And.intro h7s (And.intro hfr (And.intro hfl (And.intro (hwr) (And.intro k56.size J7))))))
            have cb0 := bx.cell 0
            have cb1 := bx.cell 1
            clear okX inX kx k56 k57 bx hwr h7s hfr hfl hsr hll hnl J7 LX LY hb6 hpl hdl6
            go_upto_region 10 with fail
            generalize w6.alloc (.cells #[.slice pq pl pn, .slice dq dl dn] 41) = w7 at *
            have PD := Lib.hid PD
            go_wp2_with fail
            refine PD.out.mono ?_
            rintro e w8 ⟨rfl, k8, b8, m8⟩
            rw [batL_x, ← doAll_snoc] at m8
            have hdl8 : (DB ++ [(⟨X.map pairX, Y.map bsK⟩ : BatD)]).length = DB.length + 1 := by simp
            have J8 : JAt (fun g => w.heap.size ≤ g ∧ g ≠ j ∧ g ≠ b) w8 j b p (doAll [] (DB ++ [⟨X.map pairX, Y.map bsK⟩])) (DB ++ [(⟨X.map pairX, Y.map bsK⟩ : BatD)]).length false := by
              rw [hdl8]
              refine ⟨b8, m8.mono (fun g hg _ => hg.elim (fun h => h) (fun h => ?_)), HK.out.1.2.2.1, HK.out.1.2.2.2⟩
              have := H7.out.2.1; have := H7.out.2.2.2.2.1; have := H7.out.2.2.2.2.2.1; have := H3.out.2.2.2.2.2.2.1; have := H3.out.2.2.2.2.2.1; have := H3.out.2.2.1.size
              exact ⟨by omega, by omega, by omega⟩
            have K8 : Keep (fun g => g = j ∨ g = b) w3 w8 := (HK.out.2.1.trans (Keep.of_below H7.out.1)).trans k8
            have F8 : ∀ x ∈ DB ++ [(⟨X.map pairX, Y.map bsK⟩ : BatD)], Fit x := fun x hx => by
              rcases List.mem_append.1 hx with h | h
              · exact HK.out.2.2.1 x h
              · rw [List.mem_singleton.1 h]; exact H7.out.2.2.1.1
            have X8 : xs = (DB ++ [(⟨X.map pairX, Y.map bsK⟩ : BatD)]).flatMap frmX ++ xs.drop (k + (12 + bl)) := by
              rw [List.flatMap_append, List.flatMap_singleton, List.append_assoc, ← List.drop_drop, HBL.out, ← H7.out.2.2.1.2.2]
              exact HK.out.2.2.2.1
            have L8 : ((DB ++ [(⟨X.map pairX, Y.map bsK⟩ : BatD)]).flatMap frmX).length = k + (12 + bl) := by
              rw [List.flatMap_append, List.flatMap_singleton, List.length_append, HK.out.2.2.2.2, H7.out.2.2.2.1]
            have H8 := Lib.hid (And.intro J8 (And.intro K8 (And.intro F8 (And.intro X8 L8))))
            clear J8 K8 F8 X8 L8 k8 b8 m8 hdl8 PD cb0 cb1
            have e1 : IntKind.i64.wrap (12 + (bl : Int)) = 12 + (bl : Int) := IntWalk.i64_in _ (by omega)
            have e2 : IntKind.i64.wrap ((k : Int) + (12 + (bl : Int))) = (k : Int) + (12 + (bl : Int)) := IntWalk.i64_in _ (by omega)
            go_wp2
            go_roundg (L - (k + (12 + bl)))
            case measure => rw [HGK.out]; omega
            case rel => exact ⟨k + (12 + bl), _, by go_num, rfl, hkb, H8.out⟩
end Go.Proofs.YtbjbjgfjaopibaaGreatDoor
end

section
/- The library's: slices.Grow of nil, slices.Concat, at []byte. -/
namespace Go.Proofs.YtbjbjgfjaopibaaGreatDoor
open Go Go.RowKit
set_option linter.unusedSimpArgs false
set_option linter.unusedVariables false
set_option maxRecDepth 100000

set_option maxHeartbeats 1600000 in
theorem grow_B (i0 : TypeInfo) (hi : Tryz.prog.info? 5 = some i0) (hz0 : i0.zero = some (.int .u8 0)) (hz1 : i0.size = 1) (hz2 : i0.bytes = 1) (n : Nat) (hn : n * 1 ≤ 140737488355328) (w : World) :
    Calls Tryz.prog 67 #[.slice none 0 0, .int .i64 (n : Int)] w fun e w' => ∃ v o, e = .returned v ∧ RowV w' 5 1 v 0 [] o ∧ (∀ g, o = some g → w.heap.size ≤ g) ∧ Below w.heap.size w w' := by
  by_cases h0 : 0 < n
  · obtain ⟨g, cap, w1, run1, R, hcap, hcm, hg, hb⟩ := run_append_room_nil (P := Tryz.prog) w 22 3 22 5 i0 (.int .u8 0) Tryz.underlying22 Tryz.underlying3 hi hz0 hz1 rfl n h0 (by rw [hz2]; exact hn) (by omega)
    have H := Lib.hid (And.intro R (And.intro hg hb))
    unfold maxLen at hcm
    have h1 : ¬ ((n : Int) < 0) := by omega
    have h2 : (0 : Int) < (n : Int) := by omega
    have h3 : (n : Int) ≤ 140737488355328 := by omega
    clear R hg hb h0 hn
    go_enter Tryz.func67, Tryz.ntmps67
    go_wp2_with (at_builtin; refine Lib.wpList_append_run _ rfl _ _ _ _ rfl _ _ rfl rfl _ _ run1 ?_)
    go_ret
    exact ⟨_, rfl, some g, H.out.1, fun g' e => (by cases e; exact H.out.2.1), H.out.2.2⟩
  · obtain rfl : n = 0 := by omega
    go_enter Tryz.func67, Tryz.ntmps67
    go_wp2
    go_ret
    exact ⟨_, none, rfl, RowV.nil _ _ _, fun g' e => (by cases e), Below.refl _ _⟩
theorem info_B : (Tryz.prog.info? 5).map (fun i => (i.zero, i.size, i.bytes)) = some (some (.int .u8 0), 1, 1) := by kernel_rfl
set_option maxHeartbeats 3200000 in
theorem concat_B (q : Option Addr) (n c : Nat) (A : Nat → Option Addr) (L C : Nat → Nat) (cs : Nat → List Value) (w : World) (h : CatIn w q n A L C cs) (hn : n ≤ 1000000) (hl : lenL L n * 1 ≤ 140737488355328) :
    Calls Tryz.prog 43 #[.slice q n c] w fun e w' => ∃ v o, e = .returned v ∧ RowV w' 5 1 v (lenL L n) (catL cs n) o ∧ (∀ g, o = some g → w.heap.size ≤ g) ∧ Below w.heap.size w w' := by
  obtain ⟨i0, hi, hz0, hz1, hz2⟩ := info_parts info_B
  have HI := Lib.hid (And.intro hi (And.intro hz0 (And.intro hz1 hz2)))
  have PG := Lib.hid (grow_B i0 hi hz0 hz1 hz2 (lenL L n) hl w)
  have HC := Lib.hid h
  have HLL := Lib.hid hl
  have hl63 : lenL L n ≤ 140737488355328 := by omega
  clear h hi hz0 hz1 hz2 hl
  go_enter Tryz.func43, Tryz.ntmps43
  go_wp2
  go_loopg [3, 11] n (fun gh s i wx => ∃ k t : Nat, k ≤ n ∧ t ≤ 140737488355328 ∧ s = .int .i64 (t : Int) ∧ i = .int .i64 (k : Int) ∧ gh = n - k ∧ Hid (t = lenL L k) ∧ wx = w)
  case atStart => exact ⟨0, 0, Nat.zero_le _, Nat.zero_le _, rfl, rfl, rfl, rfl, rfl⟩
  case round =>
    obtain ⟨k, t, hk, ht, rfl, rfl, hg, HT, hwx⟩ := hrel
    obtain rfl : w = wr := hwx.symm
    have HGK := Lib.hid hg
    clear hg
    by_cases hlt : k < n
    · obtain ⟨b, o, rfl, hc, hlen, _, _⟩ := HC.out k hlt
      have hsum : t + L k ≤ 140737488355328 := by
        have h1 : lenL L (k + 1) ≤ lenL L n := lenL_mono L hlt
        have h2 : lenL L (k + 1) = lenL L k + L k := rfl
        have h3 := HT.out
        omega
      have HS := Lib.hid hsum
      have hLk : L k ≤ 140737488355328 := by omega
      have hnn : ¬ ((t : Int) + (L k : Int) < 0) := by omega
      have hww : IntKind.i64.wrap ((t : Int) + (L k : Int)) = (t : Int) + (L k : Int) := by rw [IntKind.wrap_i64]; omega
      clear hsum hlen
      go_wp2
      go_roundg (n - (k + 1))
      case measure => rw [HGK.out]; omega
      case rel => exact ⟨k + 1, t + L k, hlt, HS.out, congrArg (Value.int .i64) (by omega), rfl, rfl, by show t + L k = lenL L k + L k; rw [HT.out], rfl⟩
    · obtain rfl : k = n := by omega
      have ht2 := HT.out
      subst ht2
      go_wp2_with fail
      refine PG.out.mono ?_
      rintro e w1 ⟨v, o, rfl, R, ho, hb⟩
      have HR := Lib.hid (And.intro R (And.intro ho hb))
      clear R ho hb
      go_wp2
      generalize hgw : w.heap.size = G at *
      go_loopg [6, 27] k (fun gh s i wx => ∃ (j : Nat) (v : Value) (o : Option Nat), j ≤ k ∧ s = v ∧ i = .int .i64 (j : Int) ∧ gh = k - j ∧ Hid (RowV wx 5 1 v (lenL L j) (catL cs j) o ∧ (∀ g, o = some g → G ≤ g) ∧ Below G w wx))
      case atStart => exact ⟨0, v, o, Nat.zero_le _, rfl, rfl, rfl, HR.out⟩
      case round =>
        obtain ⟨j, v, o, hj, rfl, rfl, hg, HJ⟩ := hrel
        have HGJ := Lib.hid hg
        clear hg
        by_cases hlt : j < k
        · have hlen : lenL L (j + 1) ≤ lenL L k := lenL_mono L hlt
          obtain ⟨b, o2, rfl, hc, hln, h1, hp⟩ := (HC.out.below (by rw [hgw]; exact HJ.out.2.2)) j hlt
          obtain ⟨v2, w2, o3, run2, R2, ho2, hk2⟩ := rowV_appendN (P := Tryz.prog) 22 22 i0 (.int .u8 0) Tryz.underlying22 HI.out.1 HI.out.2.1 HI.out.2.2.1 HI.out.2.2.2 rfl HJ.out.1 (c := C j) hln h1 hp (by
              have h2 : lenL L (j + 1) = lenL L j + L j := rfl
              unfold maxLen; omega) (by
              have h2 : lenL L (j + 1) = lenL L j + L j := rfl
              rw [← h2]; exact Nat.le_trans (Nat.mul_le_mul_right _ hlen) HLL.out)
          have HN := Lib.hid (And.intro R2 (own_step hgw HJ.out.2.2 HJ.out.2.1 ho2 hk2))
          obtain ⟨q1, c1, rfl, _⟩ := HJ.out.1.form
          clear hlen hln h1 hp R2 ho2 hk2
          go_wp2_with (at_builtin; refine wpl_append rfl _ _ 22 rfl rfl rfl run2 ?_)
          go_roundg (k - (j + 1))
          case measure => rw [HGJ.out]; omega
          case rel => exact ⟨j + 1, v2, o3, hlt, rfl, rfl, rfl, HN.out.1, HN.out.2.1, HN.out.2.2⟩
        · obtain rfl : j = k := by omega
          subst hgw
          go_wp2
          go_ret
          exact ⟨_, o, rfl, HJ.out.1, HJ.out.2.1, HJ.out.2.2⟩
end Go.Proofs.YtbjbjgfjaopibaaGreatDoor
end
