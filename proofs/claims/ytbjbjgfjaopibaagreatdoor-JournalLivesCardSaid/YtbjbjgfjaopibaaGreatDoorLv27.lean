import Derived.Test.YtbjbjgfjaopibaaGreatDoorLv26
import Derived.Test.YtbjbjgfjaopibaaGreatDoorLv14
import Derived.Test.YtbjbjgfjaopibaaGreatDoorLv16
import Derived.Test.YtbjbjgfjaopibaaGreatDoorLv24
import Derived.Test.YtbjbjgfjaopibaaGreatDoorLv13
section
/- The document's Open. -/
namespace Go.Proofs.YtbjbjgfjaopibaaGreatDoor
open Go Go.RowKit
set_option linter.unusedSimpArgs false
set_option linter.unusedVariables false
set_option maxRecDepth 100000

/-- what 'Open' answers -/
def ROpenPost (y : Nat) (xs : List Int) (sy ro fu : Int) (o : Option Nat) (w : World) (e : Ending) (w' : World) : Prop :=
  ∃ (DB : List BatD) (r : List Int), (∀ x ∈ DB, Fit x) ∧ Byt r ∧ (∀ x s, Fit x → r ≠ frmX x ++ s) ∧ xs = DB.flatMap frmX ++ r ∧ Keep (foot y o) w w' ∧ ∃ o', (o' = o ∨ ∃ g, o' = some g ∧ w.heap.size ≤ g) ∧
    ((r ≠ [] ∧ fu = 0 ∧ e = .returned (.tuple #[.pointer none, .int .i64 150]) ∧ RefAt w' y xs sy ro 0 o') ∨
     (¬ (r ≠ [] ∧ fu = 0) ∧ ∃ (x : Nat) (L : List PairD), e = .returned (.tuple #[.pointer (some ⟨x, 0, none⟩), .int .i64 0]) ∧ w.heap.size ≤ x ∧ (∀ k, foot y o' k → k ≠ x) ∧ L.map pairX = doAll [] DB ∧ DA (fun g => w.heap.size ≤ g ∧ ¬ foot y o' g ∧ g ≠ x) w' x y o' (DB.flatMap frmX) (if r = [] then sy else ((DB.flatMap frmX).length : Int)) ro (if r = [] then fu else burn fu) L DB.length false))
set_option maxHeartbeats 12800000 in
theorem ropen (y : Nat) (xs : List Int) (sy ro fu : Int) (o : Option Nat) (w : World) (hT : RefAt w y xs sy ro fu o) (hb : Byt xs) (hl : xs.length ≤ 16777216) (hf0 : -1 ≤ fu) (hf1 : fu ≤ 9223372036854775807) :
    Calls Tryz.prog 11 #[.pointer (some ⟨y, 0, none⟩)] w (ROpenPost y xs sy ro fu o w) := by
  have HG := Lib.hid (And.intro hb (And.intro hl (And.intro hf0 (And.intro hf1 (ref_lt hT)))))
  have b0 := Blk.new w #[.pointer (some ⟨y, 0, none⟩), .slice none 0 0, .int .i64 0, .bool false] 71
  have k0 : Below w.heap.size w (w.alloc (.cells #[.pointer (some ⟨y, 0, none⟩), .slice none 0 0, .int .i64 0, .bool false] 71)) := (Below.refl w.heap.size w).alloc (Nat.le_refl _) _
  have hs2 : (w.alloc (.cells #[.pointer (some ⟨y, 0, none⟩), .slice none 0 0, .int .i64 0, .bool false] 71)).heap.size = w.heap.size + 1 := by simp
  have T2 := ref_keep hT (Keep.of_below (X := fun _ => False) k0) (fun _ _ h => h)
  obtain ⟨vT, hbT, hrT, hoT⟩ := T2
  have T2 : RefAt _ y xs sy ro fu o := ⟨vT, hbT, hrT, hoT⟩
  obtain ⟨q, c, rfl, hyA, hLc, hcm, hqf⟩ := hrT.form
  have cy := hbT.cell 0
  change _ = some (Value.slice q xs.length c) at cy
  obtain ⟨L, hL⟩ : ∃ L, L = xs.length := ⟨_, rfl⟩
  obtain ⟨x, hx⟩ : ∃ x, x = w.heap.size := ⟨_, rfl⟩
  have hcm : c ≤ 9223372036854775807 := by unfold maxLen at hcm; omega
  rw [← hL] at cy hl hLc
  rw [← hx] at b0
  have HL := Lib.hid hL
  clear hT hb hf0 hf1 hL hbT hrT hoT
  go_enter Tryz.func11, Tryz.ntmps11
  go_upto_region 2 with fail
  rw [← hx]
  generalize w.alloc (.cells #[.pointer (some ⟨y, 0, none⟩), .slice none 0 0, .int .i64 0, .bool false] 71) = w2 at *
  have HX0 := Lib.hid hx
  clear hx
  have H2 := Lib.hid (And.intro T2 (And.intro ((Keep.of_below k0 : Keep (foot y o) w w2)) (And.intro b0 (And.intro hyA hqf))))
  clear T2 k0 b0 hyA hqf
  go_wp2
  go_loopg [5] L (fun gh at' wx => ∃ (k : Nat) (DB : List BatD) (lv : Value) (L' : List PairD), at' = .int .i64 (k : Int) ∧ gh = L - k ∧ k ≤ L ∧ Hid (Blk wx x #[.pointer (some ⟨y, 0, none⟩), lv, .int .i64 (DB.length : Int), .bool false] 71 ∧ KvAt (fun g => w.heap.size ≤ g ∧ g ≠ x) wx lv L' ∧ L'.map pairX = doAll [] DB ∧ Keep (fun g => g = x) w2 wx ∧ (∀ x ∈ DB, Fit x) ∧ xs = DB.flatMap frmX ++ xs.drop k ∧ (DB.flatMap frmX).length = k))
  case atStart => exact ⟨0, [], _, [], rfl, rfl, Nat.zero_le _, H2.out.2.2.1, KvAt.nil _ _, rfl, Keep.refl _ _, (fun x hx => by cases hx), rfl, rfl⟩
  case round =>
    obtain ⟨k, DB, lv, L', rfl, hg, hkL, HK⟩ := hrel
    have HGK := Lib.hid hg
    clear hg
    have hkL' : (k : Int) ≤ (L : Int) := by omega
    have hdl : (xs.drop k).length = L - k := by rw [List.length_drop, ← HL.out]
    have hyx : ¬ y = x := fun e => by have := HG.out.2.2.2.2 y (.inl rfl); have := HX0.out; omega
    have cyr : wr.cell? ⟨y, 0, none⟩ = some (.slice q L c) := (HK.out.2.2.2.1.cell (p := ⟨y, 0, none⟩) (cell_lt cy) (fun e => hyx e)).trans cy
    have PF : ∀ q' n' c', n' = L - k → Lib.BytesIn wr q' (xs.drop k).length (xs.drop k) → n' ≤ c' → c' ≤ 9223372036854775807 → Calls Tryz.prog 38 #[.slice q' n' c'] wr (FstPost (xs.drop k) wr) := fun q' n' c' h0 h1 h2 h3 => by
      have := rfirst (xs.drop k) q' c' wr h1 (HG.out.1.drop k) (by rw [hdl, ← h0]; exact h2) h3 (by rw [hdl]; omega)
      rw [hdl, ← h0] at this; exact this
    have HPF := Lib.hid PF
    clear PF
    rcases H2.out.2.2.2.2 with ⟨rfl, hL0, rfl, hoN⟩ | ⟨g3, hoN, rfl, hg3⟩
    · have hL00 : L = 0 := by rw [HL.out, hL0]; rfl
      have hdn : xs.drop k = [] := by rw [hL0]; simp
      clear hL0
      subst hL00
      obtain rfl : k = 0 := by omega
      go_upto_region 4 with fail
      refine (HPF.out none 0 0 rfl (by rw [hdn]; exact fun h => absurd h (Nat.lt_irrefl _)) (Nat.le_refl _) (by decide)).mono ?_
      rintro e WE ⟨hb5, pq, dq, pl, pn, dl, dn, hcase⟩
      rcases hcase with ⟨_, nn, rfl⟩ | ⟨X, Y, nn, hfit, _, hbs, _⟩
      · have hn5 : ∀ x s, Fit x → xs.drop 0 ≠ frmX x ++ s := by rw [hdn]; exact nil_none
        have kx := (Below.refl WE.heap.size WE).alloc (Nat.le_refl _) (.cells #[.slice pq pl pn, .slice dq dl dn] 41)
        have HEX6 := Lib.hid (fun WE' (e : WE' = WE.alloc (.cells #[.slice pq pl pn, .slice dq dl dn] 41)) => show Blk WE' x #[.pointer (some ⟨y, 0, none⟩), lv, .int .i64 (DB.length : Int), .bool false] 71 ∧ KvAt (fun g => w.heap.size ≤ g ∧ g ≠ x) WE' lv L' ∧ L'.map pairX = doAll [] DB ∧ Keep (fun g => g = x) w2 WE' ∧ (∀ x ∈ DB, Fit x) ∧ xs = DB.flatMap frmX ++ xs.drop 0 ∧ (DB.flatMap frmX).length = 0 ∧ (∀ x s, Fit x → xs.drop 0 ≠ frmX x ++ s) from by
          subst e
          have kk := hb5.trans (kx.mono hb5.size)
          exact ⟨HK.out.1.beyond kk, HK.out.2.1.more kk, HK.out.2.2.1, HK.out.2.2.2.1.trans (Keep.of_below kk), HK.out.2.2.2.2.1, HK.out.2.2.2.2.2.1, HK.out.2.2.2.2.2.2, hn5⟩)
        clear kx hn5 hb5
        go_upto_region 4 with fail
        generalize hWE : WE.alloc (.cells #[.slice pq pl pn, .slice dq dl dn] 41) = WF at *
        have HEX := Lib.hid (HEX6.out WF rfl)
        clear HEX6 hWE
        have hnil : xs.drop 0 = [] := List.drop_eq_nil_of_le (by rw [← HL.out]; have := HX0.out; omega)
        have hft : ∀ g, foot y o g → ¬ g = x := fun g hg e => by have := HG.out.2.2.2.2 g hg; have := HX0.out; omega
        have TE := ref_keep H2.out.1 HEX.out.2.2.2.1 hft
        have hxs : xs = DB.flatMap frmX := by have := HEX.out.2.2.2.2.2.1; rw [hnil, List.append_nil] at this; exact this
        have hkp : Keep (foot y o) w WF := H2.out.2.1.trans' HEX.out.2.2.2.1 (fun g hg => .inr (by have := HX0.out; omega))
        have cyw : WF.cell? ⟨y, 0, none⟩ = some (.slice none 0 0) := (HEX.out.2.2.2.1.cell (p := ⟨y, 0, none⟩) (cell_lt cy) (fun e => by have e' : y = x := e; have := HG.out.2.2.2.2 y (.inl rfl); have := HX0.out; omega)).trans cy
        have hV9 : KvAt (fun g => w.heap.size ≤ g ∧ ¬ foot y o g ∧ g ≠ x) WF lv L' := HEX.out.2.1.mono (fun g hg => ⟨hg.1, fun hf => by have := HG.out.2.2.2.2 g hf; have := hg.1; have := HX0.out; omega, hg.2⟩)
        have HF := Lib.hid (And.intro TE (And.intro hnil (And.intro hxs (And.intro hkp hV9))))
        have hge : decide ((0 : Int) < (0 : Int)) = false := decide_eq_false (by have := HX0.out; omega)
        clear TE hnil hxs hkp hft hV9
        go_wp2
        exact bodyPost_ret (results_tmp2 Tryz.results11 _ _ _) rfl ⟨DB, [], HEX.out.2.2.2.2.1, Byt.nil, nil_none, by rw [List.append_nil]; exact HF.out.2.2.1, HF.out.2.2.2.1, o, .inl rfl, .inr ⟨fun h => h.1 rfl, x, L', rfl, by have := HX0.out; omega, (fun g hg e => by have := HG.out.2.2.2.2 g hg; have := HX0.out; omega), HEX.out.2.2.1, by rw [if_pos rfl, if_pos rfl, ← HF.out.2.2.1]; exact HF.out.1, lv, HEX.out.1, HF.out.2.2.2.2⟩⟩
      · exact absurd hbs (by rw [hdn]; exact nil_none _ _ hfit)
    · by_cases hkc : c = k
      · obtain rfl : L = k := by omega
        have hdn : xs.drop L = [] := List.drop_eq_nil_of_le (by rw [← HL.out]; exact Nat.le_refl _)
        subst hkc
        go_upto_region 4 with fail
        refine (HPF.out _ 0 0 (by omega) (by rw [hdn]; exact fun h => absurd h (Nat.lt_irrefl _)) (Nat.le_refl _) (by decide)).mono ?_
        rintro e WE ⟨hb5, pq, dq, pl, pn, dl, dn, hcase⟩
        rcases hcase with ⟨_, nn, rfl⟩ | ⟨X, Y, nn, hfit, _, hbs, _⟩
        · have hn5 : ∀ x s, Fit x → xs.drop c ≠ frmX x ++ s := by rw [hdn]; exact nil_none
          have kx := (Below.refl WE.heap.size WE).alloc (Nat.le_refl _) (.cells #[.slice pq pl pn, .slice dq dl dn] 41)
          have HEX6 := Lib.hid (fun WE' (e : WE' = WE.alloc (.cells #[.slice pq pl pn, .slice dq dl dn] 41)) => show Blk WE' x #[.pointer (some ⟨y, 0, none⟩), lv, .int .i64 (DB.length : Int), .bool false] 71 ∧ KvAt (fun g => w.heap.size ≤ g ∧ g ≠ x) WE' lv L' ∧ L'.map pairX = doAll [] DB ∧ Keep (fun g => g = x) w2 WE' ∧ (∀ x ∈ DB, Fit x) ∧ xs = DB.flatMap frmX ++ xs.drop c ∧ (DB.flatMap frmX).length = c ∧ (∀ x s, Fit x → xs.drop c ≠ frmX x ++ s) from by
            subst e
            have kk := hb5.trans (kx.mono hb5.size)
            exact ⟨HK.out.1.beyond kk, HK.out.2.1.more kk, HK.out.2.2.1, HK.out.2.2.2.1.trans (Keep.of_below kk), HK.out.2.2.2.2.1, HK.out.2.2.2.2.2.1, HK.out.2.2.2.2.2.2, hn5⟩)
          clear kx hn5 hb5
          go_upto_region 4 with fail
          generalize hWE : WE.alloc (.cells #[.slice pq pl pn, .slice dq dl dn] 41) = WF at *
          have HEX := Lib.hid (HEX6.out WF rfl)
          clear HEX6 hWE
          have hnil : xs.drop c = [] := List.drop_eq_nil_of_le (by rw [← HL.out]; have := HX0.out; omega)
          have hft : ∀ g, foot y o g → ¬ g = x := fun g hg e => by have := HG.out.2.2.2.2 g hg; have := HX0.out; omega
          have TE := ref_keep H2.out.1 HEX.out.2.2.2.1 hft
          have hxs : xs = DB.flatMap frmX := by have := HEX.out.2.2.2.2.2.1; rw [hnil, List.append_nil] at this; exact this
          have hkp : Keep (foot y o) w WF := H2.out.2.1.trans' HEX.out.2.2.2.1 (fun g hg => .inr (by have := HX0.out; omega))
          have cyw : WF.cell? ⟨y, 0, none⟩ = some (.slice (some ⟨g3, 0, none⟩) c c) := (HEX.out.2.2.2.1.cell (p := ⟨y, 0, none⟩) (cell_lt cy) (fun e => by have e' : y = x := e; have := HG.out.2.2.2.2 y (.inl rfl); have := HX0.out; omega)).trans cy
          have hV9 : KvAt (fun g => w.heap.size ≤ g ∧ ¬ foot y o g ∧ g ≠ x) WF lv L' := HEX.out.2.1.mono (fun g hg => ⟨hg.1, fun hf => by have := HG.out.2.2.2.2 g hf; have := hg.1; have := HX0.out; omega, hg.2⟩)
          have HF := Lib.hid (And.intro TE (And.intro hnil (And.intro hxs (And.intro hkp hV9))))
          have hge : decide ((c : Int) < (c : Int)) = false := decide_eq_false (by have := HX0.out; omega)
          clear TE hnil hxs hkp hft hV9
          go_wp2
          exact bodyPost_ret (results_tmp2 Tryz.results11 _ _ _) rfl ⟨DB, [], HEX.out.2.2.2.2.1, Byt.nil, nil_none, by rw [List.append_nil]; exact HF.out.2.2.1, HF.out.2.2.2.1, o, .inl rfl, .inr ⟨fun h => h.1 rfl, x, L', rfl, by have := HX0.out; omega, (fun g hg e => by have := HG.out.2.2.2.2 g hg; have := HX0.out; omega), HEX.out.2.2.1, by rw [if_pos rfl, if_pos rfl, ← HF.out.2.2.1]; exact HF.out.1, lv, HEX.out.1, HF.out.2.2.2.2⟩⟩
        · exact absurd hbs (by rw [hdn]; exact nil_none _ _ hfit)
      · have hyk : Lib.BytesIn wr (some ⟨g3, 0, none⟩) xs.length xs := bytes_keep H2.out.2.2.2.1 HK.out.2.2.2.1 (fun _ q hq e => by cases hq; have e' : g3 = x := e; have := HG.out.2.2.2.2 g3 (.inr hoN); have := HX0.out; omega)
        have hyd : Lib.BytesIn wr (some ⟨g3, k, none⟩) (xs.drop k).length (xs.drop k) := bytes_drop hyk (by rw [← HL.out]; exact hkL) (fun _ => ⟨g3, 0, rfl, by rw [Nat.zero_add]⟩)
        have HYD := Lib.hid hyd
        clear hyk hyd
        go_upto_region 4 with fail
        refine (HPF.out _ (L - k) (c - k) rfl HYD.out (by omega) (by omega)).mono ?_
        rintro e WE ⟨hb5, pq, dq, pl, pn, dl, dn, hcase⟩
        rcases hcase with ⟨hn5, nn, rfl⟩ | ⟨X, Y, nn, hfit, hnn, hbs, rfl, ⟨hX, hpl⟩, ⟨hY, hdl6⟩, LX, LY⟩
        · skip
          have kx := (Below.refl WE.heap.size WE).alloc (Nat.le_refl _) (.cells #[.slice pq pl pn, .slice dq dl dn] 41)
          have HEX6 := Lib.hid (fun WE' (e : WE' = WE.alloc (.cells #[.slice pq pl pn, .slice dq dl dn] 41)) => show Blk WE' x #[.pointer (some ⟨y, 0, none⟩), lv, .int .i64 (DB.length : Int), .bool false] 71 ∧ KvAt (fun g => w.heap.size ≤ g ∧ g ≠ x) WE' lv L' ∧ L'.map pairX = doAll [] DB ∧ Keep (fun g => g = x) w2 WE' ∧ (∀ x ∈ DB, Fit x) ∧ xs = DB.flatMap frmX ++ xs.drop k ∧ (DB.flatMap frmX).length = k ∧ (∀ x s, Fit x → xs.drop k ≠ frmX x ++ s) from by
            subst e
            have kk := hb5.trans (kx.mono hb5.size)
            exact ⟨HK.out.1.beyond kk, HK.out.2.1.more kk, HK.out.2.2.1, HK.out.2.2.2.1.trans (Keep.of_below kk), HK.out.2.2.2.2.1, HK.out.2.2.2.2.2.1, HK.out.2.2.2.2.2.2, hn5⟩)
          clear kx hn5 hb5
          go_upto_region 4 with fail
          generalize hWE : WE.alloc (.cells #[.slice pq pl pn, .slice dq dl dn] 41) = WF at *
          have HEX := Lib.hid (HEX6.out WF rfl)
          clear HEX6 hWE
          by_cases hlt : k < L
          · skip
            have hlt' : (k : Int) < (L : Int) := by omega
            have hne : xs.drop k ≠ [] := fun e => by have := congrArg List.length e; rw [List.length_drop, ← HL.out] at this; simp at this; have := HX0.out; omega
            have hft : ∀ g, foot y o g → ¬ g = x := fun g hg e => by have := HG.out.2.2.2.2 g hg; have := HX0.out; omega
            have TE := ref_keep H2.out.1 HEX.out.2.2.2.1 hft
            have PCut := Lib.hid (rcut y xs sy ro fu (k : Int) o WF TE HG.out.2.1 HG.out.2.2.1 HG.out.2.2.2.1)
            have hcE : cutE (k : Int) xs.length fu = if fu = 0 then 150 else 0 := by unfold cutE; rw [if_neg (by rw [← HL.out]; have := HX0.out; omega)]; rfl
            have htk : xs.take k = DB.flatMap frmX := by rw [HEX.out.2.2.2.2.2.1]; exact List.take_left' HEX.out.2.2.2.2.2.2.1
            have hkp : ∀ wx, Keep (foot y o) WF wx → Keep (foot y o) w wx := fun wx hx => (H2.out.2.1.trans' HEX.out.2.2.2.1 (fun g hg => .inr (by have := HX0.out; omega))).trans hx
            have cyw : WF.cell? ⟨y, 0, none⟩ = some (.slice (some ⟨g3, 0, none⟩) L c) := (HEX.out.2.2.2.1.cell (p := ⟨y, 0, none⟩) (cell_lt cy) (fun e => by have e' : y = x := e; have := HG.out.2.2.2.2 y (.inl rfl); have := HX0.out; omega)).trans cy
            have HEN := Lib.hid (And.intro hne (And.intro htk (And.intro hkp hft)))
            clear TE hne htk hkp hft
            go_upto_region 9 with fail
            refine PCut.out.mono ?_
            rintro e w9 ⟨rfl, ⟨o9, T9, ho9⟩, k9⟩
            rw [hcE]
            have ho9w : o9 = o ∨ ∃ g, o9 = some g ∧ w.heap.size ≤ g := ho9.imp id fun ⟨g, h1, h2⟩ => ⟨g, h1, by have := HEX.out.2.2.2.1.size; have := H2.out.2.1.size; have := HX0.out; omega⟩
            by_cases hfu : fu = 0
            · have hT9 : RefAt w9 y xs sy ro 0 o9 := by
                have e1 : cutB xs (k : Int) fu = xs := if_pos (.inr (.inr hfu))
                have e2 : cutS xs sy (k : Int) fu = sy := if_pos (.inr (.inr hfu))
                have e3 : cutF xs.length (k : Int) fu = 0 := by unfold cutF; rw [if_neg (by rw [← HL.out]; have := HX0.out; omega), hfu]; rfl
                rw [e1, e2, e3] at T9; exact T9
              rw [if_pos hfu]
              have HF := Lib.hid (And.intro hT9 (And.intro k9 ho9w))
              clear hT9 k9 T9 ho9 ho9w
              go_wp2
              exact bodyPost_ret (results_tmp2 Tryz.results11 _ _ _) rfl ⟨DB, xs.drop k, HEX.out.2.2.2.2.1, HG.out.1.drop k, HEX.out.2.2.2.2.2.2.2, HEX.out.2.2.2.2.2.1, HEN.out.2.2.1 _ HF.out.2.1, o9, HF.out.2.2, .inl ⟨HEN.out.1, hfu, rfl, HF.out.1⟩⟩
            · have hT9 : RefAt w9 y (DB.flatMap frmX) ((DB.flatMap frmX).length : Int) ro (burn fu) o9 := by
                have e1 : cutB xs (k : Int) fu = DB.flatMap frmX := by unfold cutB; rw [if_neg (by rw [← HL.out]; have := HX0.out; omega), Int.toNat_natCast]; exact HEN.out.2.1
                have e2 : cutS xs sy (k : Int) fu = ((DB.flatMap frmX).length : Int) := by unfold cutS; rw [if_neg (by rw [← HL.out]; have := HX0.out; omega), HEX.out.2.2.2.2.2.2.1]
                have e3 : cutF xs.length (k : Int) fu = burn fu := by unfold cutF; rw [if_neg (by rw [← HL.out]; have := HX0.out; omega)]
                rw [e1, e2, e3] at T9; exact T9
              rw [if_neg hfu]
              have hB9 := k9.blk HEX.out.1 (fun h => by have := HG.out.2.2.2.2 x h; have := HX0.out; omega)
              have hV9 : KvAt (fun g => w.heap.size ≤ g ∧ ¬ foot y o9 g ∧ g ≠ x) w9 lv L' := (HEX.out.2.1.old.keep k9 (fun g hg h => by have := HG.out.2.2.2.2 g h; have := hg.1.1; have := HX0.out; omega)).mono (fun g hg => ⟨hg.1.1, fun hf => by
                rcases hf with hf | hf
                · have := HG.out.2.2.2.2 y (.inl rfl); have := hg.1.1; have := HX0.out; omega
                · rcases ho9 with h | ⟨g9, h, hle⟩
                  · rw [h] at hf; have := HG.out.2.2.2.2 g (.inr hf); have := hg.1.1; have := HX0.out; omega
                  · rw [h] at hf; cases hf; have := hg.2; have := HX0.out; omega, hg.1.2⟩)
              have hfx9 : ∀ g, foot y o9 g → g ≠ x := fun g hf e => by
                rcases hf with hf | hf
                · have := HG.out.2.2.2.2 y (.inl rfl); have := HX0.out; omega
                · rcases ho9 with h | ⟨g9, h, hle⟩
                  · rw [h] at hf; have := HG.out.2.2.2.2 g (.inr hf); have := HX0.out; omega
                  · rw [h] at hf; cases hf; have := HEX.out.1.lt; omega
              have HF := Lib.hid (And.intro hT9 (And.intro k9 (And.intro ho9w (And.intro hB9 (And.intro hV9 hfx9)))))
              clear hT9 k9 T9 ho9 ho9w hB9 hV9 hfx9
              go_wp2
              exact bodyPost_ret (results_tmp2 Tryz.results11 _ _ _) rfl ⟨DB, xs.drop k, HEX.out.2.2.2.2.1, HG.out.1.drop k, HEX.out.2.2.2.2.2.2.2, HEX.out.2.2.2.2.2.1, HEN.out.2.2.1 _ HF.out.2.1, o9, HF.out.2.2.1, .inr ⟨fun h => hfu h.2, x, L', rfl, by have := HX0.out; omega, HF.out.2.2.2.2.2, HEX.out.2.2.1, by rw [if_neg HEN.out.1, if_neg HEN.out.1]; exact HF.out.1, lv, HF.out.2.2.2.1, HF.out.2.2.2.2.1⟩⟩
          · obtain rfl : k = L := by omega
            have hnil : xs.drop k = [] := List.drop_eq_nil_of_le (by rw [← HL.out]; have := HX0.out; omega)
            have hft : ∀ g, foot y o g → ¬ g = x := fun g hg e => by have := HG.out.2.2.2.2 g hg; have := HX0.out; omega
            have TE := ref_keep H2.out.1 HEX.out.2.2.2.1 hft
            have hxs : xs = DB.flatMap frmX := by have := HEX.out.2.2.2.2.2.1; rw [hnil, List.append_nil] at this; exact this
            have hkp : Keep (foot y o) w WF := H2.out.2.1.trans' HEX.out.2.2.2.1 (fun g hg => .inr (by have := HX0.out; omega))
            have cyw : WF.cell? ⟨y, 0, none⟩ = some (.slice (some ⟨g3, 0, none⟩) k c) := (HEX.out.2.2.2.1.cell (p := ⟨y, 0, none⟩) (cell_lt cy) (fun e => by have e' : y = x := e; have := HG.out.2.2.2.2 y (.inl rfl); have := HX0.out; omega)).trans cy
            have hV9 : KvAt (fun g => w.heap.size ≤ g ∧ ¬ foot y o g ∧ g ≠ x) WF lv L' := HEX.out.2.1.mono (fun g hg => ⟨hg.1, fun hf => by have := HG.out.2.2.2.2 g hf; have := hg.1; have := HX0.out; omega, hg.2⟩)
            have HF := Lib.hid (And.intro TE (And.intro hnil (And.intro hxs (And.intro hkp hV9))))
            have hge : decide ((k : Int) < (k : Int)) = false := decide_eq_false (by have := HX0.out; omega)
            clear TE hnil hxs hkp hft hV9
            go_wp2
            exact bodyPost_ret (results_tmp2 Tryz.results11 _ _ _) rfl ⟨DB, [], HEX.out.2.2.2.2.1, Byt.nil, nil_none, by rw [List.append_nil]; exact HF.out.2.2.1, HF.out.2.2.2.1, o, .inl rfl, .inr ⟨fun h => h.1 rfl, x, L', rfl, by have := HX0.out; omega, (fun g hg e => by have := HG.out.2.2.2.2 g hg; have := HX0.out; omega), HEX.out.2.2.1, by rw [if_pos rfl, if_pos rfl, ← HF.out.2.2.1]; exact HF.out.1, lv, HEX.out.1, HF.out.2.2.2.2⟩⟩
        · have kx := (Below.refl WE.heap.size WE).alloc (Nat.le_refl _) (.cells #[.slice pq pl pn, .slice dq dl dn] 41)
          have k57 := hb5.trans (kx.mono hb5.size)
          have bx := Blk.new WE #[.slice pq pl pn, .slice dq dl dn] 41
          have hwr : w2.heap.size ≤ wr.heap.size := HK.out.2.2.2.1.size
          have hkb : k + nn ≤ L := by
            have h1 := congrArg List.length hbs
            rw [List.length_append, ← hnn] at h1
            omega
          have hfp := frmX_pos ⟨X.map pairX, Y.map bsK⟩
          rw [← hnn] at hfp
          have hll := doAll_le DB [] Srt.nil
          rw [HK.out.2.2.2.2.2.2, ← HK.out.2.2.1, List.length_map] at hll
          have hnl := flat_frm_len DB
          rw [HK.out.2.2.2.2.2.2] at hnl
          have PD := rdo x wr.heap.size DB.length (.pointer (some ⟨y, 0, none⟩)) lv (.bool false) L' X Y (fun g => w.heap.size ≤ g ∧ g ≠ x) pq dq pn dn (WE.alloc (.cells #[.slice pq pl pn, .slice dq dl dn] 41)) (HK.out.1.beyond k57) (HK.out.2.1.more k57) (by simp at hll; omega) (fun b hb => hb.2) (by omega) (by rw [← hpl]; exact LX.more kx) (by rw [← hdl6]; exact LY.more kx) hX hY (by have := HX0.out; omega) k57.size
          rw [← hpl, ← hdl6] at PD
          have H7 := Lib.hid (And.intro k57 (And.intro hfit (And.intro hnn (And.intro hbs hwr))))
          have cb0 := bx.cell 0
          have cb1 := bx.cell 1
          clear kx k57 bx hwr hll hnl LX LY hb5 hpl hdl6 hfit hnn hbs
          go_upto_region 5 with fail
          generalize WE.alloc (.cells #[.slice pq pl pn, .slice dq dl dn] 41) = w7 at *
          have PD := Lib.hid PD
          go_wp2_with fail
          refine PD.out.mono ?_
          rintro e w8 ⟨rfl, v8, k8, b8, m8⟩
          have hdl8 : (DB ++ [(⟨X.map pairX, Y.map bsK⟩ : BatD)]).length = DB.length + 1 := by simp
          have M8 : (delsR (putsR L' X) Y).map pairX = doAll [] (DB ++ [⟨X.map pairX, Y.map bsK⟩]) := by rw [doR_map, doAll_snoc, HK.out.2.2.1]
          have V8 : KvAt (fun g => w.heap.size ≤ g ∧ g ≠ x) w8 v8 (delsR (putsR L' X) Y) := m8.mono (fun g hg => hg.elim id (fun h => by have := H7.out.2.2.2.2; have := HX0.out; exact ⟨by omega, by omega⟩))
          have K8 : Keep (fun g => g = x) w2 w8 := (HK.out.2.2.2.1.trans (Keep.of_below H7.out.1)).trans k8
          have F8 : ∀ z ∈ DB ++ [(⟨X.map pairX, Y.map bsK⟩ : BatD)], Fit z := fun z hz => by
            rcases List.mem_append.1 hz with h | h
            · exact HK.out.2.2.2.2.1 z h
            · rw [List.mem_singleton.1 h]; exact H7.out.2.1
          have X8 : xs = (DB ++ [(⟨X.map pairX, Y.map bsK⟩ : BatD)]).flatMap frmX ++ xs.drop (k + nn) := by
            rw [List.flatMap_append, List.flatMap_singleton, List.append_assoc, ← List.drop_drop, ← H7.out.2.2.2.1]
            exact HK.out.2.2.2.2.2.1
          have L8 : ((DB ++ [(⟨X.map pairX, Y.map bsK⟩ : BatD)]).flatMap frmX).length = k + nn := by
            rw [List.flatMap_append, List.flatMap_singleton, List.length_append, HK.out.2.2.2.2.2.2, H7.out.2.2.1]
          rw [← hdl8] at b8
          have H8 := Lib.hid (And.intro b8 (And.intro V8 (And.intro M8 (And.intro K8 (And.intro F8 (And.intro X8 L8))))))
          clear M8 V8 K8 F8 X8 L8 k8 b8 m8 hdl8 PD cb0 cb1
          have e2 : IntKind.i64.wrap ((k : Int) + (nn : Int)) = (k : Int) + (nn : Int) := IntWalk.i64_in _ (by omega)
          go_wp2
          go_roundg (L - (k + nn))
          case measure => rw [HGK.out]; omega
          case rel => exact ⟨k + nn, _, v8, _, by go_num, rfl, hkb, H8.out⟩
end Go.Proofs.YtbjbjgfjaopibaaGreatDoor
end

section
/- The program's journal and the document's, each with its tape, beside other memory that is not theirs. -/
namespace Go.Proofs.YtbjbjgfjaopibaaGreatDoor
open Go Go.RowKit
set_option linter.unusedSimpArgs false
set_option linter.unusedVariables false
set_option maxRecDepth 100000

/-- what a tape holds may be -/
structure TpOk (xs : List Int) (sy ro fu : Int) : Prop where
  byt : Byt xs
  len : xs.length ≤ 16777216
  r0 : 0 ≤ ro
  r1 : ro ≤ 16777216
  f0 : -1 ≤ fu
  f1 : fu ≤ 9223372036854775807
  y0 : 0 ≤ sy
  y1 : sy ≤ xs.length
theorem JSOk.tp {s : JS} (h : JSOk s) : TpOk s.xs s.sy s.ro s.fu := ⟨h.byt, h.len, h.r0, h.r1, h.f0, h.f1, h.y0, h.y1⟩
section
variable {xs : List Int} {sy ro fu : Int}
theorem TpOk.fuse (h : TpOk xs sy ro fu) {n : Int} (hn : n ≤ 9223372036854775807) : TpOk xs sy ro (fuseN n fu) := by
  refine ⟨h.byt, h.len, h.r0, h.r1, ?_, ?_, h.y0, h.y1⟩
  · unfold fuseN; split
    · exact h.f0
    · omega
  · unfold fuseN; split
    · exact h.f1
    · exact hn
theorem TpOk.room (h : TpOk xs sy ro fu) {n : Int} : TpOk xs sy (roomN n ro) fu := by
  refine ⟨h.byt, h.len, ?_, ?_, h.f0, h.f1, h.y0, h.y1⟩
  · unfold roomN; split
    · exact h.r0
    · omega
  · unfold roomN; split
    · exact h.r1
    · omega
theorem TpOk.crash (h : TpOk xs sy ro fu) {n : Int} : TpOk (xs.take (crashN xs.length sy n)) (crashN xs.length sy n) ro (-1) := by
  have hc := crashN_le xs.length sy n h.y0 h.y1
  have hl : (xs.take (crashN xs.length sy n)).length = crashN xs.length sy n := by rw [List.length_take]; omega
  exact ⟨h.byt.take _, by have := h.len; omega, h.r0, h.r1, by decide, by decide, by omega, by rw [hl]; exact Int.le_refl _⟩
theorem TpOk.app (h : TpOk xs sy ro fu) {ys : List Int} (hy : Byt ys) : TpOk (appB xs ys ro fu) sy ro (burn fu) := by
  have b1 := burn_rng h.f0 h.f1
  by_cases ha : appE xs.length ys.length ro fu = 0
  · have hr := app_room ha
    have h1 := h.r1
    rw [appB_ok ha]
    have e : (xs ++ ys).length = xs.length + ys.length := List.length_append
    exact ⟨h.byt.app hy, by omega, h.r0, h.r1, b1.1, b1.2, h.y0, by have := h.y1; omega⟩
  · rw [appB_bad ha]
    exact ⟨h.byt, h.len, h.r0, h.r1, b1.1, b1.2, h.y0, h.y1⟩
end
/-- a tape in memory of its own, away from F -/
structure HT (A : World → Nat → List Int → Int → Int → Int → Option Nat → Prop) (W w : World) (F : Nat → Prop) (p : Nat) (o : Option Nat) (xs : List Int) (sy ro fu : Int) : Prop where
  bel : Below W.heap.size W w
  ok : TpOk xs sy ro fu
  at' : A w p xs sy ro fu o
  ft : ∀ k, foot p o k → (W.heap.size ≤ k ∧ ¬ F k) ∧ k < w.heap.size
  fl : ∀ k, F k → k < w.heap.size
/-- a predicate of tapes that stays -/
structure TKeep (A : World → Nat → List Int → Int → Int → Int → Option Nat → Prop) : Prop where
  keep : ∀ {X : Nat → Prop} {w w' : World} {p : Nat} {xs : List Int} {sy ro fu : Int} {o : Option Nat}, A w p xs sy ro fu o → Keep X w w' → (∀ k, foot p o k → ¬ X k) → A w' p xs sy ro fu o
  lt : ∀ {w : World} {p : Nat} {xs : List Int} {sy ro fu : Int} {o : Option Nat}, A w p xs sy ro fu o → ∀ k, foot p o k → k < w.heap.size
theorem tkp : TKeep TapeAt := ⟨fun h hk hn => h.keep hk hn, fun h => h.lt⟩
theorem tkd : TKeep RefAt := ⟨fun h hk hn => ref_keep h hk hn, fun h => ref_lt h⟩
section
variable {A : World → Nat → List Int → Int → Int → Int → Option Nat → Prop} {W w w' : World} {F F' Y : Nat → Prop} {p : Nat} {o o' : Option Nat} {xs : List Int} {sy ro fu : Int}
theorem HT.step (hA : TKeep A) (h : HT A W w F p o xs sy ro fu) (hk : Keep Y w w') (hy : ∀ k, Y k → F k ∧ W.heap.size ≤ k) (hF : ∀ k, F' k → (F k ∨ w.heap.size ≤ k) ∧ k < w'.heap.size) : HT A W w' F' p o xs sy ro fu :=
  ⟨h.bel.trans (hk.below h.bel.size (fun k hk => (hy k hk).2)), h.ok, hA.keep h.at' hk (fun k hf hY => (h.ft k hf).1.2 (hy k hY).1), fun k hf => ⟨⟨(h.ft k hf).1.1, fun hf' => by
    rcases (hF k hf').1 with h1 | h1
    · exact (h.ft k hf).1.2 h1
    · have := (h.ft k hf).2; omega⟩, Nat.lt_of_lt_of_le (h.ft k hf).2 hk.size⟩, fun k hf => (hF k hf).2⟩
theorem foot_new' {k : Nat} (h : o' = o ∨ ∃ g, o' = some g ∧ w.heap.size ≤ g) (hk : foot p o' k) : foot p o k ∨ w.heap.size ≤ k := foot_new h hk
theorem HT.next (hA : TKeep A) (h : HT A W w F p o xs sy ro fu) (hk : Keep (foot p o) w w') {xs' : List Int} {sy' ro' fu' : Int} (ha : A w' p xs' sy' ro' fu' o') (ho : o' = o ∨ ∃ g, o' = some g ∧ w.heap.size ≤ g) (hok : TpOk xs' sy' ro' fu') : HT A W w' F p o' xs' sy' ro' fu' :=
  ⟨h.bel.trans (hk.below h.bel.size (fun k hk => (h.ft k hk).1.1)), hok, ha, fun k hf => ⟨by
    rcases foot_new ho hf with h1 | h1
    · exact (h.ft k h1).1
    · exact ⟨Nat.le_trans h.bel.size h1, fun hF => by have := h.fl k hF; omega⟩, hA.lt ha k hf⟩, fun k hf => Nat.lt_of_lt_of_le (h.fl k hf) hk.size⟩
/-- its contracts say no more than this -/
def TNext (A : World → Nat → List Int → Int → Int → Int → Option Nat → Prop) (W w : World) (F : Nat → Prop) (p : Nat) (o : Option Nat) (xs : List Int) (sy ro fu : Int) (v : Value) (e : Ending) (w' : World) : Prop :=
  ∃ o', e = .returned v ∧ HT A W w' F p o' xs sy ro fu ∧ Keep (foot p o) w w' ∧ (o' = o ∨ ∃ g, o' = some g ∧ w.heap.size ≤ g)
end
section
variable {W w : World} {F : Nat → Prop} {p : Nat} {o : Option Nat} {xs : List Int} {sy ro fu : Int}
theorem pt_crash (n : Int) (h : HT TapeAt W w F p o xs sy ro fu) : Calls Tryz.prog 21 #[.pointer (some ⟨p, 0, none⟩), .int .i64 n] w (TNext TapeAt W w F p o (xs.take (crashN xs.length sy n)) (crashN xs.length sy n) ro (-1) (.int .i64 0)) := by
  refine (tcrash p xs sy ro fu n o w h.at' h.ok.len h.ok.y0 h.ok.y1).mono ?_
  rintro e w1 ⟨rfl, ht, hk⟩
  exact ⟨o, rfl, h.next tkp hk ht (.inl rfl) h.ok.crash, hk, .inl rfl⟩
theorem dt_crash (n : Int) (h : HT RefAt W w F p o xs sy ro fu) : Calls Tryz.prog 20 #[.pointer (some ⟨p, 0, none⟩), .int .i64 n] w (TNext RefAt W w F p o (xs.take (crashN xs.length sy n)) (crashN xs.length sy n) ro (-1) (.tuple #[])) := by
  refine (rcrash p xs sy ro fu n o w h.at' h.ok.len h.ok.y0 h.ok.y1).mono ?_
  rintro e w1 ⟨rfl, ⟨o', ht, ho⟩, hk⟩
  exact ⟨o', rfl, h.next tkd hk ht ho h.ok.crash, hk, ho⟩
theorem pt_append {ys : List Int} (q : Option Addr) (c : Nat) (h : HT TapeAt W w F p o xs sy ro fu) (hy : Lib.BytesIn w q ys.length ys) (hq : 0 < ys.length → ∀ a, q = some a → ¬ foot p o a.block) (hb : Byt ys) (hl : ys.length ≤ 9223372036854775807) :
    Calls Tryz.prog 22 #[.pointer (some ⟨p, 0, none⟩), .slice q ys.length c] w (TNext TapeAt W w F p o (appB xs ys ro fu) sy ro (burn fu) (.int .i64 (appE xs.length ys.length ro fu))) := by
  refine (tappend p xs ys sy ro fu o q c w h.at' hy hq h.ok.len hl h.ok.r0 h.ok.r1 h.ok.f0 h.ok.f1).mono ?_
  rintro e w1 ⟨rfl, ⟨o', ht, ho⟩, hk⟩
  exact ⟨o', rfl, h.next tkp hk ht ho (h.ok.app hb), hk, ho⟩
theorem dt_append {ys : List Int} (q : Option Addr) (c : Nat) (h : HT RefAt W w F p o xs sy ro fu) (hy : Lib.BytesIn w q ys.length ys) (hq : 0 < ys.length → ∀ a, q = some a → ¬ foot p o a.block) (hb : Byt ys) (hl : ys.length ≤ 9223372036854775807) :
    Calls Tryz.prog 23 #[.pointer (some ⟨p, 0, none⟩), .slice q ys.length c] w (TNext RefAt W w F p o (appB xs ys ro fu) sy ro (burn fu) (.int .i64 (appE xs.length ys.length ro fu))) := by
  refine (rappend p xs ys sy ro fu o q c w h.at' hy hq h.ok.len hl h.ok.r0 h.ok.r1 h.ok.f0 h.ok.f1).mono ?_
  rintro e w1 ⟨rfl, ⟨o', ht, ho⟩, hk⟩
  exact ⟨o', rfl, h.next tkd hk ht ho (h.ok.app hb), hk, ho⟩
end
/-- the blocks that change -/
def fp (p : Nat) (o : Option Nat) (j b k : Nat) : Prop := foot p o k ∨ k = j ∨ k = b
def fd (y : Nat) (o : Option Nat) (x k : Nat) : Prop := foot y o k ∨ k = x
/-- the program's journal and tape -/
structure PH (W w : World) (F : Nat → Prop) (p : Nat) (o : Option Nat) (j b : Nat) (s : JS) : Prop where
  t : HT TapeAt W w F p o s.xs s.sy s.ro s.fu
  ok : JSOk s
  jat : JAt (fun g => W.heap.size ≤ g ∧ ¬ foot p o g ∧ g ≠ j ∧ g ≠ b ∧ ¬ F g) w j b p s.l s.n s.hd
  own : (W.heap.size ≤ j ∧ ¬ F j) ∧ (W.heap.size ≤ b ∧ ¬ F b)
  fj : ∀ k, foot p o k → k ≠ j ∧ k ≠ b
/-- the document's -/
structure DH (W w : World) (F : Nat → Prop) (y : Nat) (o : Option Nat) (x : Nat) (s : JS) (L : List PairD) : Prop where
  t : HT RefAt W w F y o s.xs s.sy s.ro s.fu
  ok : JSOk s
  blk : ∃ lv, Blk w x #[.pointer (some ⟨y, 0, none⟩), lv, .int .i64 (s.n : Int), .bool s.hd] 71 ∧ KvAt (fun g => W.heap.size ≤ g ∧ ¬ foot y o g ∧ g ≠ x ∧ ¬ F g) w lv L
  lm : L.map pairX = s.l
  own : W.heap.size ≤ x ∧ ¬ F x
  fx : ∀ k, foot y o k → k ≠ x
section
variable {W w w' : World} {F F' Y : Nat → Prop} {p j b y x : Nat} {o : Option Nat} {s : JS} {L : List PairD}
theorem PH.lt (h : PH W w F p o j b s) : ∀ k, fp p o j b k → (W.heap.size ≤ k ∧ ¬ F k) ∧ k < w.heap.size := by
  rintro k (hk | rfl | rfl)
  · exact h.t.ft k hk
  · exact ⟨h.own.1, h.jat.lt.1⟩
  · exact ⟨h.own.2, h.jat.lt.2⟩
theorem DH.lt (h : DH W w F y o x s L) : ∀ k, fd y o x k → (W.heap.size ≤ k ∧ ¬ F k) ∧ k < w.heap.size := by
  rintro k (hk | rfl)
  · exact h.t.ft k hk
  · obtain ⟨lv, hb, _⟩ := h.blk
    exact ⟨h.own, hb.lt⟩
theorem PH.step (h : PH W w F p o j b s) (hk : Keep Y w w') (hy : ∀ k, Y k → F k ∧ W.heap.size ≤ k) (hF : ∀ k, F' k → (F k ∨ w.heap.size ≤ k) ∧ k < w'.heap.size) : PH W w' F' p o j b s := by
  have nF : ∀ k, k < w.heap.size → ¬ F k → ¬ F' k := fun k hl hn hf => by
    rcases (hF k hf).1 with h1 | h1
    · exact hn h1
    · omega
  exact ⟨h.t.step tkp hk hy hF, h.ok, (h.jat.mono (M := fun g => W.heap.size ≤ g ∧ ¬ foot p o g ∧ g ≠ j ∧ g ≠ b ∧ ¬ F' g ∧ ¬ F g) (fun g hg hl => ⟨hg.1, hg.2.1, hg.2.2.1, hg.2.2.2.1, nF g hl hg.2.2.2.2, hg.2.2.2.2⟩) (fun g hg => ⟨hg.2.2.1, hg.2.2.2.1⟩)).keep hk (fun e => h.own.1.2 (hy _ e).1) (fun e => h.own.2.2 (hy _ e).1) (fun g hg _ e => hg.2.2.2.2.2 (hy _ e).1) |>.mono (fun g hg _ => ⟨hg.1, hg.2.1, hg.2.2.1, hg.2.2.2.1, hg.2.2.2.2.1⟩) (fun g hg => ⟨hg.2.2.1, hg.2.2.2.1⟩), ⟨⟨h.own.1.1, nF _ h.jat.lt.1 h.own.1.2⟩, ⟨h.own.2.1, nF _ h.jat.lt.2 h.own.2.2⟩⟩, h.fj⟩
theorem DH.step (h : DH W w F y o x s L) (hk : Keep Y w w') (hy : ∀ k, Y k → F k ∧ W.heap.size ≤ k) (hF : ∀ k, F' k → (F k ∨ w.heap.size ≤ k) ∧ k < w'.heap.size) : DH W w' F' y o x s L := by
  have nF : ∀ k, k < w.heap.size → ¬ F k → ¬ F' k := fun k hl hn hf => by
    rcases (hF k hf).1 with h1 | h1
    · exact hn h1
    · omega
  have hlt := h.lt
  obtain ⟨lv, hb, hv⟩ := h.blk
  exact ⟨h.t.step tkd hk hy hF, h.ok, ⟨lv, hk.blk hb (fun e => h.own.2 (hy _ e).1), (hv.old.keep hk (fun g hg e => hg.1.2.2.2 (hy _ e).1)).mono (fun g hg => ⟨hg.1.1, hg.1.2.1, hg.1.2.2.1, nF g hg.2 hg.1.2.2.2⟩)⟩, h.lm, ⟨h.own.1, nF _ hb.lt h.own.2⟩, h.fx⟩
theorem PH.fuse (n : Int) (hn : n ≤ 9223372036854775807) (h : PH W w F p o j b s) : Calls Tryz.prog 16 #[.pointer (some ⟨p, 0, none⟩), .int .i64 n] w fun e w' => e = .returned (.int .i64 (fuseE n)) ∧ PH W w' F p o j b { s with fu := fuseN n s.fu } ∧ Keep (foot p o) w w' := by
  refine (tfuse p s.xs s.sy s.ro s.fu n o w h.t.at').mono ?_
  rintro e w1 ⟨rfl, ht, hk⟩
  have hok := h.t.ok.fuse hn
  exact ⟨rfl, ⟨h.t.next tkp hk ht (.inl rfl) hok, ⟨h.ok.srt, h.ok.kv, hok.byt, hok.len, hok.r0, hok.r1, hok.f0, hok.f1, hok.y0, hok.y1, h.ok.ll, h.ok.nn⟩, h.jat.keep hk (fun e => (h.fj _ e).1 rfl) (fun e => (h.fj _ e).2 rfl) (fun g hg _ e => hg.2.1 e), h.own, h.fj⟩, hk⟩
theorem PH.room (n : Int) (h : PH W w F p o j b s) : Calls Tryz.prog 18 #[.pointer (some ⟨p, 0, none⟩), .int .i64 n] w fun e w' => e = .returned (.int .i64 (roomE n)) ∧ PH W w' F p o j b { s with ro := roomN n s.ro } ∧ Keep (foot p o) w w' := by
  refine (troom p s.xs s.sy s.ro s.fu n o w h.t.at').mono ?_
  rintro e w1 ⟨rfl, ht, hk⟩
  have hok := h.t.ok.room (n := n)
  exact ⟨rfl, ⟨h.t.next tkp hk ht (.inl rfl) hok, ⟨h.ok.srt, h.ok.kv, hok.byt, hok.len, hok.r0, hok.r1, hok.f0, hok.f1, hok.y0, hok.y1, h.ok.ll, h.ok.nn⟩, h.jat.keep hk (fun e => (h.fj _ e).1 rfl) (fun e => (h.fj _ e).2 rfl) (fun g hg _ e => hg.2.1 e), h.own, h.fj⟩, hk⟩
theorem DH.fuse (n : Int) (hn : n ≤ 9223372036854775807) (h : DH W w F y o x s L) : Calls Tryz.prog 17 #[.pointer (some ⟨y, 0, none⟩), .int .i64 n] w fun e w' => e = .returned (.int .i64 (fuseE n)) ∧ DH W w' F y o x { s with fu := fuseN n s.fu } L ∧ Keep (foot y o) w w' := by
  refine (rfuse y s.xs s.sy s.ro s.fu n o w h.t.at').mono ?_
  rintro e w1 ⟨rfl, ht, hk⟩
  have hok := h.t.ok.fuse hn
  obtain ⟨lv, hb, hv⟩ := h.blk
  exact ⟨rfl, ⟨h.t.next tkd hk ht (.inl rfl) hok, ⟨h.ok.srt, h.ok.kv, hok.byt, hok.len, hok.r0, hok.r1, hok.f0, hok.f1, hok.y0, hok.y1, h.ok.ll, h.ok.nn⟩, ⟨lv, hk.blk hb (fun e => h.fx _ e rfl), hv.keep hk (fun g hg e => hg.2.1 e)⟩, h.lm, h.own, h.fx⟩, hk⟩
theorem DH.room (n : Int) (h : DH W w F y o x s L) : Calls Tryz.prog 19 #[.pointer (some ⟨y, 0, none⟩), .int .i64 n] w fun e w' => e = .returned (.int .i64 (roomE n)) ∧ DH W w' F y o x { s with ro := roomN n s.ro } L ∧ Keep (foot y o) w w' := by
  refine (rroom y s.xs s.sy s.ro s.fu n o w h.t.at').mono ?_
  rintro e w1 ⟨rfl, ht, hk⟩
  have hok := h.t.ok.room (n := n)
  obtain ⟨lv, hb, hv⟩ := h.blk
  exact ⟨rfl, ⟨h.t.next tkd hk ht (.inl rfl) hok, ⟨h.ok.srt, h.ok.kv, hok.byt, hok.len, hok.r0, hok.r1, hok.f0, hok.f1, hok.y0, hok.y1, h.ok.ll, h.ok.nn⟩, ⟨lv, hk.blk hb (fun e => h.fx _ e rfl), hv.keep hk (fun g hg e => hg.2.1 e)⟩, h.lm, h.own, h.fx⟩, hk⟩
theorem comFit {X : BatchD} (hX : BatOk w X) : CanB (batX X) → Fit (batX X) := fun hc => ⟨hc, fun q hq => by
    obtain ⟨i, hi, rfl⟩ := List.mem_map.1 hq
    obtain ⟨_, _, _, _, _, hok⟩ := hX.1.2.2.2 i (List.mem_range.1 hi)
    exact hok.2.1.range⟩
theorem PH.commit {X : BatchD} (hG : Glob W) (h : PH W w F p o j b s) (hX : BatOk w X) (hXN : BatIn (fun g => ¬ fp p o j b g) X) :
    Calls Tryz.prog 13 #[.pointer (some ⟨j, 0, none⟩), .agg (batCs X).toArray] w fun e w' =>
      ∃ o', e = .returned (.int .i64 (comS s (batX X)).1) ∧ PH W w' F p o' j b (comS s (batX X)).2 ∧ Keep (fp p o j b) w w' ∧ (o' = o ∨ ∃ g, o' = some g ∧ w.heap.size ≤ g) := by
  have hok := h.ok
  have hlt := h.jat.lt
  have C := jcommit p j b X s.xs s.sy s.ro s.fu o s.l s.n s.hd _ w (hG.below h.t.bel) h.t.at' h.jat hok.srt hok.len hok.r0 hok.r1 hok.f0 hok.f1 (by have := hok.ll; have := hok.len; omega) (by have := hok.nn; have := hok.len; omega) hX
    (hXN.mono fun g hg => ⟨fun e => hg (.inl e), fun e => hg (.inr (.inl e)), fun e => hg (.inr (.inr e))⟩) (fun k hk => ⟨fun hn => hn.2.1 hk, h.fj k hk⟩)
  refine C.mono ?_
  rintro e w1 ⟨kk, hcase⟩
  have hok' : JSOk (comS s (batX X)).2 := hok.com (comFit hX)
  have hbel : Below W.heap.size W w1 := h.t.bel.trans (kk.below h.t.bel.size (fun k hk => (h.lt k hk).1.1))
  have hfl : ∀ k, F k → k < w1.heap.size := fun k hf => Nat.lt_of_lt_of_le (h.t.fl k hf) kk.size
  have hft : ∀ {o' : Option Nat} {xs : List Int} {sy ro fu : Int}, (o' = o ∨ ∃ g, o' = some g ∧ w.heap.size ≤ g) → TapeAt w1 p xs sy ro fu o' → ∀ k, foot p o' k → ((W.heap.size ≤ k ∧ ¬ F k) ∧ k < w1.heap.size) ∧ k ≠ j ∧ k ≠ b := fun ho ht k hk => by
    rcases foot_new ho hk with h1 | h1
    · exact ⟨⟨(h.t.ft k h1).1, ht.lt k hk⟩, h.fj k h1⟩
    · exact ⟨⟨⟨Nat.le_trans h.t.bel.size h1, fun hF => by have := h.t.fl k hF; omega⟩, ht.lt k hk⟩, by omega, by omega⟩
  have mn : ∀ {o' : Option Nat} (l : KV) (n : Nat) (hd : Bool), JAt (fun g => ((W.heap.size ≤ g ∧ ¬ foot p o g ∧ g ≠ j ∧ g ≠ b ∧ ¬ F g) ∨ w.heap.size ≤ g) ∧ ¬ foot p o' g ∧ g ≠ j ∧ g ≠ b) w1 j b p l n hd → JAt (fun g => W.heap.size ≤ g ∧ ¬ foot p o' g ∧ g ≠ j ∧ g ≠ b ∧ ¬ F g) w1 j b p l n hd := fun l n hd hj =>
    hj.mono (fun g hg _ => by
      rcases hg.1 with h1 | h1
      · exact ⟨h1.1, hg.2.1, hg.2.2.1, hg.2.2.2, h1.2.2.2.2⟩
      · exact ⟨Nat.le_trans h.t.bel.size h1, hg.2.1, hg.2.2.1, hg.2.2.2, fun hF => by have := h.t.fl g hF; omega⟩) (fun g hg => ⟨hg.2.2.1, hg.2.2.2.1⟩)
  rcases hcase with ⟨hc, rfl, hb⟩ | ⟨hc, hh, rfl, hb⟩ | ⟨hc, hh, o', ho', hcase⟩
  · have e1 : comS s (batX X) = (1, s) := by unfold comS; rw [if_pos hc]
    rw [e1]
    exact ⟨o, rfl, h.step (Keep.of_below (X := fun _ => False) hb) (fun _ h => h.elim) (fun k hf => ⟨.inl hf, hfl k hf⟩), kk, .inl rfl⟩
  · have e1 : comS s (batX X) = (210, s) := by unfold comS; rw [if_neg (fun f => f hc), if_pos hh]
    rw [e1]
    exact ⟨o, rfl, h.step (Keep.of_below (X := fun _ => False) hb) (fun _ h => h.elim) (fun k hf => ⟨.inl hf, hfl k hf⟩), kk, .inl rfl⟩
  · rcases hcase with ⟨ha, rfl, ht, hj⟩ | ⟨ha, hb, rfl, ht, hj⟩ | ⟨ha, hb, rfl, ht, hj⟩
    · have e1 : comS s (batX X) = (appE s.xs.length (frmX (batX X)).length s.ro s.fu, { s with fu := burn s.fu, hd := true }) := by
        unfold comS; rw [if_neg (fun f => f hc), if_neg (by rw [hh]; decide), if_pos ha]
      rw [e1] at hok' ⊢
      exact ⟨o', rfl, ⟨⟨hbel, hok'.tp, ht, fun k hk => (hft ho' ht k hk).1, hfl⟩, hok', mn _ _ _ hj, h.own, fun k hk => (hft ho' ht k hk).2⟩, kk, ho'⟩
    · have e1 : comS s (batX X) = (burnE (burn s.fu), { s with xs := s.xs ++ frmX (batX X), fu := burn (burn s.fu), hd := true }) := by
        unfold comS; rw [if_neg (fun f => f hc), if_neg (by rw [hh]; decide), if_neg (fun f => f ha), if_pos hb]
      rw [e1] at hok' ⊢
      exact ⟨o', rfl, ⟨⟨hbel, hok'.tp, ht, fun k hk => (hft ho' ht k hk).1, hfl⟩, hok', mn _ _ _ hj, h.own, fun k hk => (hft ho' ht k hk).2⟩, kk, ho'⟩
    · have e1 : comS s (batX X) = (0, { s with xs := s.xs ++ frmX (batX X), sy := ((s.xs ++ frmX (batX X)).length : Int), fu := burn (burn s.fu), l := doK s.l (batX X), n := s.n + 1 }) := by
        unfold comS; rw [if_neg (fun f => f hc), if_neg (by rw [hh]; decide), if_neg (fun f => f ha), if_neg (fun f => f hb)]
      rw [e1] at hok' ⊢
      refine ⟨o', rfl, ⟨⟨hbel, hok'.tp, ht, fun k hk => (hft ho' ht k hk).1, hfl⟩, hok', ?_, h.own, fun k hk => (hft ho' ht k hk).2⟩, kk, ho'⟩
      rw [show s.hd = false from hh]
      exact mn _ _ _ hj
theorem DH.commit {X : BatchD} (h : DH W w F y o x s L) (hX : BatOk w X) (hXN : BatIn (fun g => ¬ fd y o x g) X) :
    Calls Tryz.prog 15 #[.pointer (some ⟨x, 0, none⟩), .agg (batCs X).toArray] w fun e w' =>
      ∃ o' L', e = .returned (.int .i64 (comS s (batX X)).1) ∧ DH W w' F y o' x (comS s (batX X)).2 L' ∧ Keep (fd y o x) w w' ∧ (o' = o ∨ ∃ g, o' = some g ∧ w.heap.size ≤ g) := by
  have hok := h.ok
  obtain ⟨lv, hb, hv⟩ := h.blk
  have hxl := hb.lt
  have hLl : L.length = s.l.length := by rw [← h.lm, List.length_map]
  have C := rcommit0 x y X s.xs s.sy s.ro s.fu o L s.n s.hd _ w ⟨h.t.at', lv, hb, hv⟩ hok.len hok.r0 hok.r1 hok.f0 hok.f1 (by have := hok.ll; have := hok.len; omega) (by have := hok.nn; have := hok.len; omega) hX
    (hXN.mono fun g hg => ⟨fun e => hg (.inl e), fun e => hg (.inr e)⟩) (fun k hk => ⟨fun hn => hn.2.1 hk, h.fx k hk⟩) (fun b hb => hb.2.2.1)
  refine C.mono ?_
  rintro e w1 ⟨kk, hcase⟩
  have hok' : JSOk (comS s (batX X)).2 := hok.com (comFit hX)
  have hbel : Below W.heap.size W w1 := h.t.bel.trans (kk.below h.t.bel.size (fun k hk => (h.lt k hk).1.1))
  have hfl : ∀ k, F k → k < w1.heap.size := fun k hf => Nat.lt_of_lt_of_le (h.t.fl k hf) kk.size
  have hft : ∀ {o' : Option Nat} {xs : List Int} {sy ro fu : Int}, (o' = o ∨ ∃ g, o' = some g ∧ w.heap.size ≤ g) → RefAt w1 y xs sy ro fu o' → ∀ k, foot y o' k → ((W.heap.size ≤ k ∧ ¬ F k) ∧ k < w1.heap.size) ∧ k ≠ x := fun ho ht k hk => by
    rcases foot_new ho hk with h1 | h1
    · exact ⟨⟨(h.t.ft k h1).1, ref_lt ht k hk⟩, h.fx k h1⟩
    · exact ⟨⟨⟨Nat.le_trans h.t.bel.size h1, fun hF => by have := h.t.fl k hF; omega⟩, ref_lt ht k hk⟩, by omega⟩
  have mn : ∀ {o' : Option Nat} {v : Value} {M : List PairD}, KvAt (fun g => ((W.heap.size ≤ g ∧ ¬ foot y o g ∧ g ≠ x ∧ ¬ F g) ∨ w.heap.size ≤ g) ∧ ¬ foot y o' g ∧ g ≠ x) w1 v M → KvAt (fun g => W.heap.size ≤ g ∧ ¬ foot y o' g ∧ g ≠ x ∧ ¬ F g) w1 v M := fun hj =>
    hj.mono (fun g hg => by
      rcases hg.1 with h1 | h1
      · exact ⟨h1.1, hg.2.1, hg.2.2, h1.2.2.2⟩
      · exact ⟨Nat.le_trans h.t.bel.size h1, hg.2.1, hg.2.2, fun hF => by have := h.t.fl g hF; omega⟩)
  rcases hcase with ⟨hc, rfl, hb1⟩ | ⟨hc, hh, rfl, hb1⟩ | ⟨hc, hh, o', ho', hcase⟩
  · have e1 : comS s (batX X) = (1, s) := by unfold comS; rw [if_pos hc]
    rw [e1]
    exact ⟨o, L, rfl, h.step (Keep.of_below (X := fun _ => False) hb1) (fun _ h => h.elim) (fun k hf => ⟨.inl hf, hfl k hf⟩), kk, .inl rfl⟩
  · have e1 : comS s (batX X) = (210, s) := by unfold comS; rw [if_neg (fun f => f hc), if_pos hh]
    rw [e1]
    exact ⟨o, L, rfl, h.step (Keep.of_below (X := fun _ => False) hb1) (fun _ h => h.elim) (fun k hf => ⟨.inl hf, hfl k hf⟩), kk, .inl rfl⟩
  · rcases hcase with ⟨ha, rfl, ht, lv', hj, hv'⟩ | ⟨ha, hb2, rfl, ht, lv', hj, hv'⟩ | ⟨ha, hb2, rfl, L', hL', ht, lv', hj, hv'⟩
    · have e1 : comS s (batX X) = (appE s.xs.length (frmX (batX X)).length s.ro s.fu, { s with fu := burn s.fu, hd := true }) := by
        unfold comS; rw [if_neg (fun f => f hc), if_neg (by rw [hh]; decide), if_pos ha]
      rw [e1] at hok' ⊢
      exact ⟨o', L, rfl, ⟨⟨hbel, hok'.tp, ht, fun k hk => (hft ho' ht k hk).1, hfl⟩, hok', ⟨lv', hj, mn hv'⟩, h.lm, h.own, fun k hk => (hft ho' ht k hk).2⟩, kk, ho'⟩
    · have e1 : comS s (batX X) = (burnE (burn s.fu), { s with xs := s.xs ++ frmX (batX X), fu := burn (burn s.fu), hd := true }) := by
        unfold comS; rw [if_neg (fun f => f hc), if_neg (by rw [hh]; decide), if_neg (fun f => f ha), if_pos hb2]
      rw [e1] at hok' ⊢
      exact ⟨o', L, rfl, ⟨⟨hbel, hok'.tp, ht, fun k hk => (hft ho' ht k hk).1, hfl⟩, hok', ⟨lv', hj, mn hv'⟩, h.lm, h.own, fun k hk => (hft ho' ht k hk).2⟩, kk, ho'⟩
    · have e1 : comS s (batX X) = (0, { s with xs := s.xs ++ frmX (batX X), sy := ((s.xs ++ frmX (batX X)).length : Int), fu := burn (burn s.fu), l := doK s.l (batX X), n := s.n + 1 }) := by
        unfold comS; rw [if_neg (fun f => f hc), if_neg (by rw [hh]; decide), if_neg (fun f => f ha), if_neg (fun f => f hb2)]
      rw [e1] at hok' ⊢
      refine ⟨o', L', rfl, ⟨⟨hbel, hok'.tp, ht, fun k hk => (hft ho' ht k hk).1, hfl⟩, hok', ⟨lv', ?_, mn hv'⟩, by rw [hL', h.lm], h.own, fun k hk => (hft ho' ht k hk).2⟩, kk, ho'⟩
      rw [show s.hd = false from hh]
      exact hj
end
end Go.Proofs.YtbjbjgfjaopibaaGreatDoor
end

section
/- Both tapes opened. -/
namespace Go.Proofs.YtbjbjgfjaopibaaGreatDoor
open Go Go.RowKit
set_option linter.unusedSimpArgs false
set_option linter.unusedVariables false
set_option maxRecDepth 100000

section
variable {W w w' : World} {F : Nat → Prop} {p y : Nat} {o : Option Nat} {xs : List Int} {sy ro fu : Int}
theorem HT.tw (hG : Glob W) (h : HT TapeAt W w F p o xs sy ro fu) : TW W w p o xs sy ro fu := ⟨h.bel, hG, h.ok.byt, h.ok.len, h.ok.r0, h.ok.r1, h.ok.f0, h.ok.f1, h.ok.y0, h.ok.y1, h.at', fun k hk => (h.ft k hk).1.1⟩
theorem pt_open (hG : Glob W) (h : HT TapeAt W w F p o xs sy ro fu) :
    Calls Tryz.prog 10 #[.pointer (some ⟨p, 0, none⟩)] w fun e w' => Keep (foot p o) w w' ∧
      (((opnS xs sy ro fu).1 = 150 ∧ e = .returned (.tuple #[.pointer none, .int .i64 150]) ∧ HT TapeAt W w' F p o xs sy ro fu) ∨
       ((opnS xs sy ro fu).1 = 0 ∧ ∃ j b, e = .returned (.tuple #[.pointer (some ⟨j, 0, none⟩), .int .i64 0]) ∧ w.heap.size ≤ j ∧ w.heap.size ≤ b ∧ PH W w' F p o j b (opnS xs sy ro fu).2)) := by
  refine (jw_open (h.tw hG)).mono ?_
  rintro e w1 ⟨kk, hcase⟩
  refine ⟨kk, ?_⟩
  have hfl : ∀ k, F k → k < w1.heap.size := fun k hf => Nat.lt_of_lt_of_le (h.fl k hf) kk.size
  rcases hcase with ⟨h1, rfl, ht⟩ | ⟨h1, j, b, rfl, hj, hb, hJ, hW⟩
  · exact .inl ⟨h1, rfl, ⟨ht.bel, h.ok, ht.tape, fun k hk => ⟨(h.ft k hk).1, ht.tape.lt k hk⟩, hfl⟩⟩
  · have hs := h.bel.size
    refine .inr ⟨h1, j, b, rfl, hj, hb, ⟨⟨hW.bel, hW.ok.tp, hW.tape, fun k hk => ⟨(h.ft k hk).1, hW.tape.lt k hk⟩, hfl⟩, hW.ok, ?_, ⟨⟨by omega, fun hF => by have := h.fl j hF; omega⟩, ⟨by omega, fun hF => by have := h.fl b hF; omega⟩⟩, fun k hk => (hW.ft k hk).2⟩⟩
    exact hJ.mono (fun g hg _ => ⟨by omega, fun hf => by have := (h.ft g hf).2; omega, hg.2.1, hg.2.2, fun hF => by have := h.fl g hF; omega⟩) (fun g hg => ⟨hg.2.2.1, hg.2.2.2.1⟩)
theorem dt_open (h : HT RefAt W w F y o xs sy ro fu) :
    Calls Tryz.prog 11 #[.pointer (some ⟨y, 0, none⟩)] w fun e w' => Keep (foot y o) w w' ∧ ∃ o', (o' = o ∨ ∃ g, o' = some g ∧ w.heap.size ≤ g) ∧
      (((opnS xs sy ro fu).1 = 150 ∧ e = .returned (.tuple #[.pointer none, .int .i64 150]) ∧ HT RefAt W w' F y o' xs sy ro fu) ∨
       ((opnS xs sy ro fu).1 = 0 ∧ ∃ x L, e = .returned (.tuple #[.pointer (some ⟨x, 0, none⟩), .int .i64 0]) ∧ w.heap.size ≤ x ∧ DH W w' F y o' x (opnS xs sy ro fu).2 L)) := by
  refine (ropen y xs sy ro fu o w h.at' h.ok.byt h.ok.len h.ok.f0 h.ok.f1).mono ?_
  rintro e w1 ⟨DB, r, hfit, hr, hno, rfl, kk, o', ho', hcase⟩
  have hbel : Below W.heap.size W w1 := h.bel.trans (kk.below h.bel.size (fun k hk => (h.ft k hk).1.1))
  have hfl : ∀ k, F k → k < w1.heap.size := fun k hf => Nat.lt_of_lt_of_le (h.fl k hf) kk.size
  have hop := opens_eq hfit hr hno
  have hlen : (DB.flatMap frmX ++ r).length = (DB.flatMap frmX).length + r.length := List.length_append
  have hlr : r = [] ↔ (DB.flatMap frmX).length = (DB.flatMap frmX ++ r).length := by
    rw [hlen]
    constructor
    · intro h1; rw [h1]; rfl
    · intro h1; exact List.length_eq_zero_iff.1 (by omega)
  have hlr2 : r ≠ [] ↔ (DB.flatMap frmX).length < (DB.flatMap frmX ++ r).length := by rw [ne_eq, hlr, hlen]; omega
  have hft : ∀ {xs : List Int} {sy ro fu : Int}, RefAt w1 y xs sy ro fu o' → ∀ k, foot y o' k → (W.heap.size ≤ k ∧ ¬ F k) ∧ k < w1.heap.size := fun ht k hk => by
    rcases foot_new ho' hk with h1 | h1
    · exact ⟨(h.ft k h1).1, ref_lt ht k hk⟩
    · exact ⟨⟨Nat.le_trans h.bel.size h1, fun hF => by have := h.fl k hF; omega⟩, ref_lt ht k hk⟩
  refine ⟨kk, o', ho', ?_⟩
  rcases hcase with ⟨h1, h2, rfl, ht⟩ | ⟨h1, x, L, rfl, hx, hfx, hL, ht, lv, hB, hV⟩
  · refine .inl ⟨?_, rfl, ⟨hbel, h.ok, h2 ▸ ht, hft ht, hfl⟩⟩
    unfold opnS
    rw [hop, if_pos ⟨hlr2.1 h1, h2⟩]
  · have e1 : opnS (DB.flatMap frmX ++ r) sy ro fu = (0, ⟨DB.flatMap frmX, if r = [] then sy else ((DB.flatMap frmX).length : Int), ro, if r = [] then fu else burn fu, doAll [] DB, DB.length, false⟩) := by
      unfold opnS
      rw [hop, if_neg (fun f => h1 ⟨hlr2.2 f.1, f.2⟩), List.take_left' rfl]
      simp only [hlr]
    rw [e1]
    have b1 := burn_rng h.ok.f0 h.ok.f1
    have hl := h.ok.len
    have hd := doAll_le DB [] Srt.nil
    have hok : JSOk ⟨DB.flatMap frmX, if r = [] then sy else ((DB.flatMap frmX).length : Int), ro, if r = [] then fu else burn fu, doAll [] DB, DB.length, false⟩ := by
      refine ⟨Srt.nil.doAll DB, KvOk.nil.doAll hfit, h.ok.byt.left, by show (DB.flatMap frmX).length ≤ _; omega, h.ok.r0, h.ok.r1, ?_, ?_, ?_, ?_, by simpa using hd, flat_frm_len DB⟩
      · show -1 ≤ (if r = [] then fu else burn fu); split
        · exact h.ok.f0
        · exact b1.1
      · show (if r = [] then fu else burn fu) ≤ _; split
        · exact h.ok.f1
        · exact b1.2
      · show 0 ≤ (if r = [] then sy else ((DB.flatMap frmX).length : Int)); split
        · exact h.ok.y0
        · omega
      · show (if r = [] then sy else ((DB.flatMap frmX).length : Int)) ≤ ((DB.flatMap frmX).length : Int); split
        · next h0 => have := h.ok.y1; rw [← hlr.1 h0] at this; exact this
        · omega
    have hs := h.bel.size
    have hF : ∀ k, w.heap.size ≤ k → ¬ F k := fun k hk hf => by have := h.fl k hf; omega
    exact .inr ⟨rfl, x, L, rfl, hx, ⟨⟨hbel, hok.tp, ht, hft ht, hfl⟩, hok, ⟨lv, hB, hV.mono (fun g hg => ⟨by omega, hg.2.1, hg.2.2, hF g hg.1⟩)⟩, hL, ⟨by omega, hF x hx⟩, hfx⟩⟩
end
end Go.Proofs.YtbjbjgfjaopibaaGreatDoor
end
