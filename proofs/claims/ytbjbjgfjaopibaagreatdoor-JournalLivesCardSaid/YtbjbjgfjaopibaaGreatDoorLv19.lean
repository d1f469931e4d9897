import Derived.Test.YtbjbjgfjaopibaaGreatDoorLv17
import Derived.Test.YtbjbjgfjaopibaaGreatDoorLv18
import Derived.Test.YtbjbjgfjaopibaaGreatDoorLv13
import Derived.Test.YtbjbjgfjaopibaaGreatDoorLv6
section
/- The document's parse of a batch's bytes: it answers what rdBat says. -/
namespace Go.Proofs.YtbjbjgfjaopibaaGreatDoor
open Go Go.RowKit
set_option linter.unusedSimpArgs false
set_option linter.unusedVariables false
set_option maxRecDepth 100000

/-- the pairs of keys and values that rows of bytes say -/
def pairsR : List RwD → List PairD
  | y :: z :: t => ⟨sK (kOf y.z), z⟩ :: pairsR t
  | _ => []
theorem pairsR_x : ∀ P, (pairsR P).map pairX = pairsOf (P.map RwD.z)
  | [] => rfl
  | [_] => rfl
  | y :: z :: t => by
    show (bsK (sK (kOf y.z)), z.z) :: (pairsR t).map pairX = (kOf y.z, z.z) :: pairsOf (t.map RwD.z)
    rw [pairsR_x t]; rfl
theorem pairsR_len : ∀ (n : Nat) (P : List RwD), P.length = n * 2 → (pairsR P).length = n
  | 0, P, h => by
    obtain rfl := List.eq_nil_of_length_eq_zero (by simpa using h)
    rfl
  | n + 1, [], h => by simp at h
  | n + 1, [_], h => by rw [List.length_singleton] at h; omega
  | n + 1, y :: z :: t, h => by
    show (pairsR t).length + 1 = _
    rw [pairsR_len n t (by simp at h; omega)]
theorem pairsR_get : ∀ (k : Nat) (P : List RwD) (y z : RwD), P[2 * k]? = some y → P[2 * k + 1]? = some z → (pairsR P)[k]? = some ⟨sK (kOf y.z), z⟩
  | _, [], y, z, h, _ => by simp at h
  | 0, [_], y, z, _, h => by simp at h
  | k + 1, [_], y, z, h, _ => by simp at h
  | 0, a :: b :: t, y, z, h1, h2 => by
    have e1 : a = y := by simpa using h1
    have e2 : b = z := by simpa using h2
    subst e1; subst e2; rfl
  | k + 1, a :: b :: t, y, z, h1, h2 => by
    show (pairsR t)[k]? = _
    exact pairsR_get k t y z (by simpa [Nat.mul_add] using h1) (by simpa [Nat.mul_add] using h2)
/-- where the two batches of 'parse' lie -/
def PAt (w0 wx : World) (g : Nat) (pv dv : Value) : Prop :=
  (∃ a b : Value, Blk wx g #[a, b] 41) ∧ Blk wx (g + 1) #[pv, dv] 41 ∧ Below g w0 wx ∧ w0.heap.size = g ∧ g + 2 ≤ wx.heap.size
theorem PAt.keep {w0 wx wy : World} {g : Nat} {pv dv : Value} {Y : Nat → Prop} (h : PAt w0 wx g pv dv) (hk : Keep Y wx wy) (hY : ∀ k, Y k → g + 2 ≤ k) : PAt w0 wy g pv dv := by
  obtain ⟨⟨a, b, h1⟩, h2, h3, h4, h5⟩ := h
  exact ⟨⟨a, b, hk.blk h1 (fun e => by have := hY _ e; omega)⟩, hk.blk h2 (fun e => by have := hY _ e; omega), h3.trans (hk.below (by omega) (fun k e => by have := hY _ e; omega)), h4, Nat.le_trans h5 hk.size⟩
theorem PAt.fin {w0 wx : World} {g : Nat} {pv dv : Value} (h : PAt w0 wx g pv dv) : Blk ((wx.setCell ⟨g, 0, none⟩ pv).setCell ⟨g, 1, none⟩ dv) g #[pv, dv] 41 ∧ Below w0.heap.size w0 ((wx.setCell ⟨g, 0, none⟩ pv).setCell ⟨g, 1, none⟩ dv) ∧ Keep (fun k => k = g) wx ((wx.setCell ⟨g, 0, none⟩ pv).setCell ⟨g, 1, none⟩ dv) := by
  obtain ⟨⟨a, b, h1⟩, h2, h3, h4, h5⟩ := h
  refine ⟨(h1.set 0 _).set 1 _, by rw [h4]; exact (h3.setCell (p := ⟨g, 0, none⟩) (Nat.le_refl _) _).setCell (p := ⟨g, 1, none⟩) (Nat.le_refl _) _, Keep.set (X := fun k => k = g) (Keep.set (X := fun k => k = g) (Keep.refl _ wx) (p := ⟨g, 0, none⟩) (.inl rfl) _) (p := ⟨g, 1, none⟩) (.inl rfl) _⟩
/-- what a step of 'parse' reads -/
def S8 (g gx m : Nat) (a b c : Value) (ay : Option Addr) (yz : List Int) (w : World) : Prop :=
  w.cell? ⟨g + 1, 0, none⟩ = some a ∧ w.cell? ⟨gx, m, none⟩ = some b ∧ w.cell? ⟨gx, m + 1, none⟩ = some c ∧ Lib.BytesIn w ay yz.length yz
theorem S8.keep {g gx m : Nat} {a b c : Value} {ay : Option Addr} {yz : List Int} {w w' : World} {Y : Nat → Prop} (h : S8 g gx m a b c ay yz w) (hk : Keep Y w w') (h1 : ¬ Y (g + 1)) (h2 : ¬ Y gx) (h3 : ∀ q, ay = some q → ¬ Y q.block) : S8 g gx m a b c ay yz w' :=
  ⟨(hk.cell (p := ⟨g + 1, 0, none⟩) (cell_lt h.1) h1).trans h.1, (hk.cell (p := ⟨gx, m, none⟩) (cell_lt h.2.1) h2).trans h.2.1, (hk.cell (p := ⟨gx, m + 1, none⟩) (cell_lt h.2.2.1) h2).trans h.2.2.1, bytes_keep h.2.2.2 hk (fun _ q hq => h3 q hq)⟩
/-- a row of rows: its cells, its rows -/
theorem LstO.row {w : World} {G : Nat} {o : Option Nat} {v : Value} {P : List RwD} {i : Nat} {y : RwD} (h : LstO rwK 22 w G o v P) (hi : P[i]? = some y) : ∃ gx, o = some gx ∧ (∃ n, v = .slice (some ⟨gx, 0, none⟩) P.length n) ∧ w.cell? ⟨gx, i, none⟩ = some y.cell ∧ RwOk 1048576 w y ∧ ∀ q, y.a = some q → G ≤ q.block ∧ q.block < w.heap.size ∧ o ≠ some q.block := by
  have hl : i < P.length := by
    rcases Nat.lt_or_ge i P.length with h | h
    · exact h
    · rw [List.getElem?_eq_none h] at hi; cases hi
  obtain ⟨gx, n, ho, hv, _, _, _, hc, _⟩ := h.1.mem (by omega)
  have hyy : P[i] = y := by rw [List.getElem?_eq_getElem hl] at hi; exact Option.some.inj hi
  have ha := h.2.2 y (by rw [← hyy]; exact List.getElem_mem hl)
  refine ⟨gx, ho, ⟨n, hv⟩, ?_, ha.1, ha.2⟩
  have h1 := flat_get rwK P i 0 hl (by decide)
  rw [hc i (by show i < P.length * 1; omega)]
  rw [show i * rwK.k + 0 = i from by show i * 1 + 0 = i; omega] at h1
  rw [h1, hyy]; rfl
/-- the document's texts say no: there is no batch -/
theorem doc_no1 {bs : List Int} (hb : Byt bs) (hl : bs.length ≤ 1048576) (h : rdTs 2 bs = none) : rdBat bs = none := by
  cases hr : rdBat bs with
  | none => rfl
  | some x => obtain ⟨_, h1, _⟩ := doc_of hb hl hr; rw [h] at h1; cases h1
theorem doc_no2 {bs r : List Int} {p : List (List Int)} (hb : Byt bs) (hl : bs.length ≤ 1048576) (h : rdTs 2 bs = some (p, r)) (h2 : ∀ d, rdTs 1 r ≠ some (d, [])) : rdBat bs = none := by
  cases hr : rdBat bs with
  | none => rfl
  | some x =>
    obtain ⟨b2, h1, h3, _⟩ := doc_of hb hl hr
    rw [h] at h1; cases h1
    exact absurd h3 (h2 _)
theorem doc_no3 {bs r : List Int} {p d : List (List Int)} (hb : Byt bs) (hl : bs.length ≤ 1048576) (h : rdTs 2 bs = some (p, r)) (h2 : rdTs 1 r = some (d, [])) (hc : ¬ CanB (docX p d)) : rdBat bs = none := by
  cases hr : rdBat bs with
  | none => rfl
  | some x =>
    obtain ⟨b2, h1, h3, h4, h5⟩ := doc_of hb hl hr
    rw [h] at h1; cases h1
    rw [h2] at h3; cases h3
    rw [h4] at hc; exact absurd h5 hc
set_option maxHeartbeats 12800000 in
theorem rparse (bs : List Int) (q : Option Addr) (c : Nat) (w : World) (hy : Lib.BytesIn w q bs.length bs) (hb : Byt bs) (hc : bs.length ≤ c) (hcm : c ≤ 9223372036854775807) (hl : bs.length ≤ 1048576) :
    Calls Tryz.prog 62 #[.slice q bs.length c] w (ReadPost bs w) := by
  have B1 := Blk.w2_0 w #[.slice none 0 0, .slice none 0 0] 41 (.cells #[.slice none 0 0, .slice none 0 0] 41)
  have B2 := Blk.w2_1 w #[.slice none 0 0, .slice none 0 0] 41 (.cells #[.slice none 0 0, .slice none 0 0] 41)
  have K2 : Below w.heap.size w ((w.alloc (.cells #[.slice none 0 0, .slice none 0 0] 41)).alloc (.cells #[.slice none 0 0, .slice none 0 0] 41)) := ((Below.refl w.heap.size w).alloc (Nat.le_refl _) _).alloc (by simp) _
  have hs2 : ((w.alloc (.cells #[.slice none 0 0, .slice none 0 0] 41)).alloc (.cells #[.slice none 0 0, .slice none 0 0] 41)).heap.size = w.heap.size + 2 := by simp
  have hy2 := bytes_keep hy (Keep.of_below (X := fun _ => False) K2) (fun _ _ _ h => h)
  have hpa : PAt w _ w.heap.size (.slice none 0 0) (.slice none 0 0) := ⟨⟨_, _, B1⟩, B2, K2, rfl, Nat.le_of_eq hs2.symm⟩
  have HA := Lib.hid (And.intro hpa (And.intro hs2 (And.intro hb hl)))
  clear B1 B2 K2 hs2 hy hpa
  obtain ⟨bl, hbl⟩ : ∃ bl, bl = bs.length := ⟨_, rfl⟩
  have PT : ∀ w2, Lib.BytesIn w2 q bs.length bs → Calls Tryz.prog 81 #[.slice q bl c, .int .i64 2] w2 (RTsPost bs 2 w2) := fun w2 h => by
    rw [hbl]; exact rtexts bs 2 q c w2 h hb hc hcm (by omega) (by decide)
  rw [← hbl] at hc ⊢
  have HBL := Lib.hid hbl
  clear hbl hb hl
  go_enter Tryz.func62, Tryz.ntmps62
  go_upto_region 2 with fail
  generalize (w.alloc (.cells #[.slice none 0 0, .slice none 0 0] 41)).alloc (.cells #[.slice none 0 0, .slice none 0 0] 41) = w2 at *
  generalize hgw : w.heap.size = g at *
  have PT := Lib.hid (PT w2 hy2)
  clear hy2
  go_wp2_with fail
  refine PT.out.mono ?_
  rintro e w3 ⟨v1, v2, bo, rfl, hb3, hcase⟩
  have A3 := HA.out.1.keep (Keep.of_below (X := fun _ => False) hb3) (fun _ h => h.elim)
  rcases hcase with ⟨hn, rfl⟩ | ⟨P, r, o2, hsm, rfl, hP, hR, ho2, ⟨q2, c2, rfl⟩, hrb, hrl⟩
  · have HN := Lib.hid (doc_no1 HA.out.2.2.1 HA.out.2.2.2 hn)
    have AA := A3
    clear hn A3 hb3 PT
    have HNo := Lib.hid (And.intro AA.fin.1 (And.intro AA.fin.2.1 HN.out))
    obtain ⟨⟨a0, a1, bR⟩, bX, _⟩ := AA
    have cX0 := bX.cell 0
    have cX1 := bX.cell 1
    have cR0 := bR.cell 0
    have cR1 := bR.cell 1
    have fR := bR.free
    clear bR bX
    go_wp2
    exact bodyPost_ret (results_cell_tmp Tryz.results62 _ _ g 41 #[.slice none 0 0, .slice none 0 0] (0,0) _ rfl HNo.out.1 Tryz.underlying41 rfl (by kernel_rfl)) rfl ⟨HNo.out.2.1, none, none, 0, 0, 0, 0, .inl ⟨HNo.out.2.2, rfl⟩⟩
  · obtain ⟨n, hn20, hPn, hPz, _⟩ := (rdTs_iff HA.out.2.2.1 _ _).1 hsm
    rw [List.length_map] at hPn
    obtain ⟨oP, hPO⟩ := hP
    have hPO : LstO rwK 22 w3 w2.heap.size oP v1 P := hPO
    obtain ⟨qP, nP, rfl, _⟩ := hPO.1.form
    have hs2 : w2.heap.size = g + 2 := HA.out.2.1
    have HP := Lib.hid (And.intro hPO (And.intro hPn (And.intro hsm (And.intro hrb (And.intro hrl (And.intro hR (And.intro ho2 hs2)))))))
    have HS3 := Lib.hid A3
    clear hPO hPn hsm hrb hrl hR ho2 hs2 hPz A3 hb3 PT
    obtain ⟨pl, hpl⟩ : ∃ pl, pl = P.length := ⟨_, rfl⟩
    obtain ⟨rl, hrl⟩ : ∃ rl, rl = r.length := ⟨_, rfl⟩
    rw [← hpl, ← hrl]
    have HPL := Lib.hid (And.intro hpl (And.intro hrl (show pl = n * 2 from by rw [hpl]; exact HP.out.2.1)))
    clear hpl hrl
    go_wp2
    go_loopg [8] n (fun gh v wx => ∃ (k m : Nat) (X : List PairD) (o : Option Nat) (pv : Value), v = .int .i64 (m : Int) ∧ gh = n - k ∧ k ≤ n ∧ Hid (m = 2 * k ∧ PAt w wx g pv (.slice none 0 0) ∧ LstO pairK 58 wx (g + 2) o pv X ∧ X = (pairsR P).take k ∧ (∀ b, o = some b → w3.heap.size ≤ b) ∧ Keep (fun b => b = g + 1) w3 wx))
    case atStart => exact ⟨0, 0, [], none, _, rfl, rfl, Nat.zero_le _, rfl, HS3.out, LstO.nil _ _ _ _, rfl, (fun b e => by cases e), Keep.refl _ _⟩
    case round =>
      obtain ⟨k, m, X, o, pv, rfl, hg, hkn, HK⟩ := hrel
      have HG := Lib.hid hg
      have hml : m < pl ↔ k < n := by have := HK.out.1; have := HPL.out.2.2; omega
      have hmb : m ≤ 40000 := by have := HK.out.1; omega
      clear hg
      obtain ⟨pq, pn, rfl, _⟩ := HK.out.2.2.1.1.form
      by_cases hlt : k < n
      · have hlt' : m < pl := hml.2 hlt
        have hPl : P.length = 2 * n := by have := HP.out.2.1; omega
        obtain ⟨⟨ay, cy, yz⟩, hyE⟩ : ∃ y : RwD, P[m]? = some y := ⟨P[m]'(by have := HK.out.1; omega), List.getElem?_eq_getElem _⟩
        obtain ⟨⟨az, cz, zz⟩, hzE⟩ : ∃ y : RwD, P[m + 1]? = some y := ⟨P[m + 1]'(by have := HK.out.1; omega), List.getElem?_eq_getElem _⟩
        have hpx := pairsR_get k P _ _ (by rw [← HK.out.1]; exact hyE) (by rw [← HK.out.1]; exact hzE)
        obtain ⟨gx, hox, ⟨nx, hvx⟩, hcy, hry, hby⟩ := HP.out.1.row hyE
        obtain ⟨gx', hox', _, hcz, hrz, hbz⟩ := HP.out.1.row hzE
        obtain rfl : gx = gx' := Option.some.inj (hox.symm.trans hox')
        rw [← HPL.out.1] at hvx
        cases hvx
        have hgx := HP.out.1.2.1 gx hox
        have hgxl := HP.out.1.lt gx hox
        have hs2 : w2.heap.size = g + 2 := HP.out.2.2.2.2.2.2.2
        have hs3 : w3.heap.size ≤ wr.heap.size := HK.out.2.2.2.2.2.size
        have kd : Keep (fun b => b = g + 1) w3 wr.drew := HK.out.2.2.2.2.2.drew
        have hs8 : S8 g gx m (.slice pq X.length pn) (.slice ay yz.length cy) (.slice az zz.length cz) ay yz wr.drew :=
          ⟨HK.out.2.1.2.1.cell 0, (kd.cell (p := ⟨gx, m, none⟩) (cell_lt hcy) (by show ¬ gx = g + 1; omega)).trans hcy, (kd.cell (p := ⟨gx, m + 1, none⟩) (cell_lt hcz) (by show ¬ gx = g + 1; omega)).trans hcz, bytes_keep (xs := yz) (p := ay) hry.1.bytes kd (fun _ q hq e => by have e' : q.block = g + 1 := e; have := (hby q hq).1; omega)⟩
        have hcv : ∀ w', Lib.BytesIn w' ay yz.length yz → (convert 22 9 (.slice ay yz.length cy)).run Tryz.prog w' = .ok (.string (sK (kOf yz))) w' := fun w' h => conv_str h
        have hx6 : pairK.at' (fun b => g + 2 ≤ b ∧ b < wr.drew.heap.size ∧ o ≠ some b) wr.drew ⟨sK (kOf yz), ⟨az, cz, zz⟩⟩ := by
          have hyl : yz.length ≤ 1048576 := hry.2
          refine ⟨by show (kOf yz).toArray.size ≤ 140737488351232; simp [kOf]; omega, ⟨hrz.1.keep kd (fun q hq e => by have e' : q.block = g + 1 := e; have := (hbz q hq).1; omega), by have := hrz.2; show zz.length ≤ 140737488351232; have h9 : zz.length ≤ 1048576 := this; omega⟩, fun q hq => ⟨by have := (hbz q hq).1; omega, Nat.lt_of_lt_of_le (hbz q hq).2.1 hs3, fun e => by have := (hbz q hq).2.1; have := HK.out.2.2.2.2.1 _ e; omega⟩⟩
        have hm1 : m + 1 < pl := by have := HK.out.1; have := HPL.out.2.2; omega
        have hm2 : IntKind.i64.wrap ((m : Int) + 1) = (m : Int) + 1 := IntWalk.i64_in _ (by omega)
        have hm3 : (m : Int) + 1 < (pl : Int) := by omega
        have hm4 : (0 : Int) ≤ (m : Int) + 1 := by omega
        have hm5 : ((m : Int) + 1).toNat = m + 1 := by omega
        have HX6 := Lib.hid hx6
        have HBL2 := Lib.hid (And.intro hgx (And.intro hgxl (And.intro hs2 (And.intro hs3 (And.intro hby (And.intro hpx HP.out.1.2.1))))))
        have HCV := hcv
        clear hml hPl hyE hzE hpx hox hox' hcy hry hby hcz hrz hbz hgx hgxl hs2 hs3 hx6 hcv
        obtain ⟨xn, hxn⟩ : ∃ xn, xn = X.length := ⟨_, rfl⟩
        obtain ⟨ly, hly⟩ : ∃ ly, ly = yz.length := ⟨_, rfl⟩
        obtain ⟨lz, hlz⟩ : ∃ lz, lz = zz.length := ⟨_, rfl⟩
        obtain ⟨ks, hks⟩ : ∃ ks, ks = sK (kOf yz) := ⟨_, rfl⟩
        rw [← hxn, ← hly, ← hlz] at hs8
        rw [← hks] at HCV
        have HCV := Lib.hid (show ∀ w', Lib.BytesIn w' ay yz.length yz → (convert 22 9 (.slice ay ly cy)).run Tryz.prog w' = .ok (.string ks) w' from by rw [hly]; exact HCV)
        have HXN := Lib.hid (And.intro hxn (And.intro hly (And.intro hlz hks)))
        clear hxn hly hlz hks
        go_upto_region 8 with fail
        refine wp_region_last 16 (fun w' => S8 g gx m (.slice pq xn pn) (.slice ay ly cy) (.slice az lz cz) ay yz w') (by kernel_rfl) hs8 (fun hS => ?_)
        refine tkL 0 (v := ?_) rfl (by kernel_rfl) ⟨by rfl, ?_⟩ hS ?_
        rotate_left
        · intro w0 hs; obtain ⟨s1, s2, s3, s4⟩ := hs; have hcv := HCV.out _ s4; go_simp; try (with_reducible rfl)
        try simp only [Act.put, List.setIfInBounds_toArray, List.set_cons_zero, List.set_cons_succ]
        refine tkL 1 (v := ?_) rfl (by kernel_rfl) ⟨by rfl, ?_⟩ hS ?_
        rotate_left
        · intro w0 hs; obtain ⟨s1, s2, s3, s4⟩ := hs; have hcv := HCV.out _ s4; go_simp; try (with_reducible rfl)
        try simp only [Act.put, List.setIfInBounds_toArray, List.set_cons_zero, List.set_cons_succ]
        refine tkL 2 (v := ?_) rfl (by kernel_rfl) ⟨by rfl, ?_⟩ hS ?_
        rotate_left
        · intro w0 hs; obtain ⟨s1, s2, s3, s4⟩ := hs; have hcv := HCV.out _ s4; go_simp; try (with_reducible rfl)
        try simp only [Act.put, List.setIfInBounds_toArray, List.set_cons_zero, List.set_cons_succ]
        refine tkL 3 (v := ?_) rfl (by kernel_rfl) ⟨by rfl, ?_⟩ hS ?_
        rotate_left
        · intro w0 hs; obtain ⟨s1, s2, s3, s4⟩ := hs; have hcv := HCV.out _ s4; go_simp; try (with_reducible rfl)
        try simp only [Act.put, List.setIfInBounds_toArray, List.set_cons_zero, List.set_cons_succ]
        refine tkL 4 (v := ?_) rfl (by kernel_rfl) ⟨by rfl, ?_⟩ hS ?_
        rotate_left
        · intro w0 hs; obtain ⟨s1, s2, s3, s4⟩ := hs; have hcv := HCV.out _ s4; go_simp; try (with_reducible rfl)
        try simp only [Act.put, List.setIfInBounds_toArray, List.set_cons_zero, List.set_cons_succ]
        refine tkL 5 (v := ?_) rfl (by kernel_rfl) ⟨by rfl, ?_⟩ hS ?_
        rotate_left
        · intro w0 hs; obtain ⟨s1, s2, s3, s4⟩ := hs; have hcv := HCV.out _ s4; go_simp; try (with_reducible rfl)
        try simp only [Act.put, List.setIfInBounds_toArray, List.set_cons_zero, List.set_cons_succ]
        refine tkL 6 (v := ?_) rfl (by kernel_rfl) ⟨by rfl, ?_⟩ hS ?_
        rotate_left
        · intro w0 hs; obtain ⟨s1, s2, s3, s4⟩ := hs; have hcv := HCV.out _ s4; go_simp; try (with_reducible rfl)
        try simp only [Act.put, List.setIfInBounds_toArray, List.set_cons_zero, List.set_cons_succ]
        refine tkL 7 (v := ?_) rfl (by kernel_rfl) ⟨by rfl, ?_⟩ hS ?_
        rotate_left
        · intro w0 hs; obtain ⟨s1, s2, s3, s4⟩ := hs; have hcv := HCV.out _ s4; go_simp; try (with_reducible rfl)
        try simp only [Act.put, List.setIfInBounds_toArray, List.set_cons_zero, List.set_cons_succ]
        refine tkL 8 (v := ?_) rfl (by kernel_rfl) ⟨by rfl, ?_⟩ hS ?_
        rotate_left
        · intro w0 hs; obtain ⟨s1, s2, s3, s4⟩ := hs; have hcv := HCV.out _ s4; go_simp; try (with_reducible rfl)
        try simp only [Act.put, List.setIfInBounds_toArray, List.set_cons_zero, List.set_cons_succ]
        refine tkL 9 (v := ?_) rfl (by kernel_rfl) ⟨by rfl, ?_⟩ hS ?_
        rotate_left
        · intro w0 hs; obtain ⟨s1, s2, s3, s4⟩ := hs; have hcv := HCV.out _ s4; go_simp; try (with_reducible rfl)
        try simp only [Act.put, List.setIfInBounds_toArray, List.set_cons_zero, List.set_cons_succ]
        refine tkL 10 (v := ?_) rfl (by kernel_rfl) ⟨by rfl, ?_⟩ hS ?_
        rotate_left
        · intro w0 hs; obtain ⟨s1, s2, s3, s4⟩ := hs; have hcv := HCV.out _ s4; go_simp; try (with_reducible rfl)
        try simp only [Act.put, List.setIfInBounds_toArray, List.set_cons_zero, List.set_cons_succ]
        refine tkL 11 (v := ?_) rfl (by kernel_rfl) ⟨by rfl, ?_⟩ hS ?_
        rotate_left
        · intro w0 hs; obtain ⟨s1, s2, s3, s4⟩ := hs; have hcv := HCV.out _ s4; go_simp; try (with_reducible rfl)
        try simp only [Act.put, List.setIfInBounds_toArray, List.set_cons_zero, List.set_cons_succ]
        refine tkL 12 (v := ?_) rfl (by kernel_rfl) ⟨by rfl, ?_⟩ hS ?_
        rotate_left
        · intro w0 hs; obtain ⟨s1, s2, s3, s4⟩ := hs; have hcv := HCV.out _ s4; go_simp; try (with_reducible rfl)
        try simp only [Act.put, List.setIfInBounds_toArray, List.set_cons_zero, List.set_cons_succ]
        refine wpAnyL_one (i := 13) (oi := ⟨_, _, _, _, _, _⟩) rfl (by kernel_rfl) (fun K hK => ?_)
        rw [if_pos (by rfl)]
        go_simp
        have hc6 := hS
        have hS' := S8.keep hS ((Keep.refl (fun _ => False) wr.drew).alloc (.cells #[.string ks, .slice az lz cz] 58)) (fun h => h) (fun h => h) (fun _ _ h => h)
        refine hK.out _ _ (.inr hS') ?_
        clear hS hK
        have hS := hS'; clear hS'
        try simp only [Act.put, List.setIfInBounds_toArray, List.set_cons_zero, List.set_cons_succ]
        refine wpAnyL_one (i := 14) (oi := ⟨_, _, _, _, _, _⟩) rfl (by kernel_rfl) (fun K hK => ?_)
        rw [if_pos (by rfl)]
        obtain ⟨i1, z1, f1, f2, f3, f4, f5⟩ := info_ofJ pairInf
        have L6 : LstO pairK 58 wr.drew (g + 2) o (.slice pq X.length pn) X := HK.out.2.2.1.keep (Y := fun _ => False) ((Keep.refl _ wr).drew) (fun _ _ _ h => h)
        obtain ⟨q8, n8, v7, w7, o7, hv8, run7, L7, k7, ho7⟩ := L6.add 38 Tryz.underlying38 f1 f2 f3 f4 f5 (by decide) (show g + 2 ≤ wr.heap.size from HK.out.2.1.2.2.2.2) HX6.out (by have := congrArg List.length HK.out.2.2.2.1; rw [List.length_take] at this; unfold maxLen; omega) (by have := congrArg List.length HK.out.2.2.2.1; rw [List.length_take] at this; omega)
        cases hv8
        change (Builtin.append_ #[38, 38] 38 #[.slice pq X.length pn, .slice (some ⟨wr.drew.heap.size, 0, none⟩) 1 1]).run Tryz.prog (wr.drew.alloc (.cells #[.string (sK (kOf yz)), .slice az zz.length cz] 58)) = .ok v7 w7 at run7
        rw [← HXN.out.1, ← HXN.out.2.2.1, ← HXN.out.2.2.2] at run7
        obtain ⟨q7, n7, hv7, _⟩ := L7.1.form
        obtain ⟨l7, hl7⟩ : ∃ l7, l7 = (X ++ [(⟨sK (kOf yz), ⟨az, cz, zz⟩⟩ : PairD)]).length := ⟨_, rfl⟩
        rw [← hl7] at hv7
        subst hv7
        have HL7 := Lib.hid hl7
        clear hl7
        refine wp_appI _ _ 38 rfl rfl rfl run7 ?_
        have hS' := S8.keep hc6 k7 (fun e => by have := HK.out.2.2.2.2.1 _ e; have := HBL2.out; omega) (fun e => by have := HK.out.2.2.2.2.1 _ e; have := HBL2.out; omega) (fun q hq e => by have := HK.out.2.2.2.2.1 _ e; have := (HBL2.out.2.2.2.2.1 q hq).2.1; omega)
        refine hK.out _ _ (.inr hS') ?_
        clear hS hK
        have hS := hS'; clear hS'
        try simp only [Act.put, List.setIfInBounds_toArray, List.set_cons_zero, List.set_cons_succ]
        refine tkL 15 (v := ?_) rfl (by kernel_rfl) ⟨by rfl, ?_⟩ hS ?_
        rotate_left
        · intro w0 hs; obtain ⟨s1, s2, s3, s4⟩ := hs; have hcv := HCV.out _ s4; go_simp; try (with_reducible rfl)
        try simp only [Act.put, List.setIfInBounds_toArray, List.set_cons_zero, List.set_cons_succ]
        refine wpAnyL_one (i := 16) (oi := ⟨_, _, _, _, _, _⟩) rfl (by kernel_rfl) (fun K hK => ?_)
        rw [if_pos (by rfl)]
        have b7 := k7.blk (a := wr.drew) HK.out.2.1.2.1 (fun e => by have := HK.out.2.2.2.2.1 _ e; have := HBL2.out; omega)
        have cz7 := b7.cell 0
        have fz7 := b7.free 0
        go_simp
        refine hK.out _ _ (.inl rfl) ?_
        clear hK
        try simp only [Act.put, List.setIfInBounds_toArray, List.set_cons_zero, List.set_cons_succ]
        refine wpAnyL_done (by kernel_rfl) ?_ _
        have b8 : Blk (w7.setCell ⟨g + 1, 0, none⟩ (.slice q7 l7 n7)) (g + 1) #[(.slice q7 l7 n7), .slice none 0 0] 41 := b7.set 0 (.slice q7 l7 n7)
        have k8 : Keep (fun k => k = g + 1) w7 (w7.setCell ⟨g + 1, 0, none⟩ (.slice q7 l7 n7)) := Keep.set (X := fun k => k = g + 1) (Keep.refl _ w7) (p := ⟨g + 1, 0, none⟩) (.inl rfl) _
        have hs2 : w2.heap.size = g + 2 := HP.out.2.2.2.2.2.2.2
        have L8 := L7.keep k8 (fun b h1 h2 e => by have e' : b = g + 1 := e; omega)
        have hod : ∀ b, o = some b → w3.heap.size ≤ b := HK.out.2.2.2.2.1
        have h23 : g + 2 ≤ w3.heap.size := HS3.out.2.2.2.2
        have P7 : PAt w w7 g (.slice pq X.length pn) (.slice none 0 0) := HK.out.2.1.keep (Y := fun k => o = some k) ((Keep.refl _ wr).drew.trans k7) (fun b e => by have := hod b e; omega)
        have P8 : PAt w (w7.setCell ⟨g + 1, 0, none⟩ (.slice q7 l7 n7)) g (.slice q7 l7 n7) (.slice none 0 0) := by
          obtain ⟨⟨a, b, h1⟩, _, h3, h4, h5⟩ := P7
          exact ⟨⟨a, b, k8.blk h1 (by show ¬ g = g + 1; omega)⟩, b8, h3.setCell (p := ⟨g + 1, 0, none⟩) (by show g ≤ g + 1; omega) _, h4, Nat.le_trans h5 k8.size⟩
        have K8 : Keep (fun b => b = g + 1) w3 (w7.setCell ⟨g + 1, 0, none⟩ (.slice q7 l7 n7)) := (HK.out.2.2.2.2.2.drew.trans' k7 (fun b e => .inr (hod b e))).trans k8
        have O8 : ∀ b, o7 = some b → w3.heap.size ≤ b := fun b e => by
          rcases ho7 with h | ⟨g9, h, hg9⟩
          · exact hod b (h ▸ e)
          · rw [h] at e; cases e; exact Nat.le_trans HK.out.2.2.2.2.2.size hg9
        have X8 : X ++ [(⟨sK (kOf yz), ⟨az, cz, zz⟩⟩ : PairD)] = (pairsR P).take (k + 1) := by
          rw [List.take_add_one, HBL2.out.2.2.2.2.2.1, ← HK.out.2.2.2.1]; rfl
        have H8 := Lib.hid (And.intro (show m + 2 = 2 * (k + 1) from by have := HK.out.1; omega) (And.intro P8 (And.intro L8 (And.intro X8 (And.intro O8 K8)))))
        clear b8 k8 hs2 L8 hod h23 P7 P8 K8 O8 X8 b7 cz7 fz7 L6 L7 k7 ho7 run7 f1 f2 f3 f4 f5 hm1 hm2 hm3 hm4 hm5 hc6 hs8
        go_wp2
        go_roundg (n - (k + 1))
        case measure => rw [HG.out]; omega
        case rel => exact ⟨k + 1, m + 2, _, o7, _, by go_num, rfl, by omega, H8.out⟩
      · obtain rfl : k = n := by omega
        have hnl : ¬ m < pl := fun h => hlt (hml.1 h)
        have hR := HP.out.2.2.2.2.2.1.keep HK.out.2.2.2.2.2 (fun g' hg' e => by have e' : g' = g + 1 := e; have := HP.out.2.2.2.2.2.2.1 g' hg'; have := HP.out.2.2.2.2.2.2.2; omega)
        obtain ⟨_, _, e1, hyr, hlr, hcr, _⟩ := hR.form
        cases e1
        have PT2 := rtexts r 1 q2 c2 wr hyr HP.out.2.2.2.1 hlr (by unfold maxLen at hcr; exact hcr) (by have := HP.out.2.2.2.2.1; have := HA.out.2.2.2; omega) (by decide)
        rw [← HPL.out.2.1] at PT2
        change Calls Tryz.prog 81 #[.slice q2 rl c2, .int .i64 1] wr _ at PT2
        have PT2 := Lib.hid PT2
        have hXl : X.length = k := by rw [HK.out.2.2.2.1, List.length_take, pairsR_len k P HP.out.2.1, Nat.min_self]
        have hXa : X = pairsR P := by rw [HK.out.2.2.2.1]; exact List.take_of_length_le (Nat.le_of_eq (pairsR_len k P HP.out.2.1))
        have HXL := Lib.hid (And.intro hXl hXa)
        clear hml hR hyr hlr hcr hXl hXa
        go_wp2_with fail
        refine PT2.out.mono ?_
        rintro e w5 ⟨u1, u2, bo2, rfl, hb5, hcase⟩
        have A5 := HK.out.2.1.keep (Keep.of_below (X := fun _ => False) hb5) (fun _ h => h.elim)
        obtain ⟨xl, hxl⟩ : ∃ xl, xl = X.length := ⟨_, rfl⟩
        rw [← hxl] at A5
        have HXX := Lib.hid hxl
        clear hxl
        rcases hcase with ⟨hn, rfl⟩ | ⟨D, r2, o5, hsm, rfl, hD, hR5, ho5, ⟨q5, c5, rfl⟩, hrb5, hrl5⟩
        · have HN := Lib.hid (doc_no2 HA.out.2.2.1 HA.out.2.2.2 HP.out.2.2.1 (fun d h => by rw [hn] at h; cases h))
          have AA := A5
          clear hn A5 hb5 PT2
          have HNo := Lib.hid (And.intro AA.fin.1 (And.intro AA.fin.2.1 HN.out))
          obtain ⟨⟨a0, a1, bR⟩, bX, _⟩ := AA
          have cX0 := bX.cell 0
          have cX1 := bX.cell 1
          have cR0 := bR.cell 0
          have cR1 := bR.cell 1
          have fR := bR.free
          clear bR bX
          go_wp2
          exact bodyPost_ret (results_cell_tmp Tryz.results62 _ _ g 41 #[.slice pq xl pn, .slice none 0 0] (0,0) _ rfl HNo.out.1 Tryz.underlying41 rfl (by kernel_rfl)) rfl ⟨HNo.out.2.1, pq, none, xl, pn, 0, 0, .inl ⟨HNo.out.2.2, rfl⟩⟩
        · by_cases h0 : r2 = []
          · subst h0
            obtain ⟨m, hm20, hDn, _, _⟩ := (rdTs_iff HP.out.2.2.2.1 _ _).1 hsm
            rw [List.length_map, Nat.mul_one] at hDn
            obtain ⟨oD, hDO⟩ := hD
            have hDO : LstO rwK 22 w5 wr.heap.size oD u1 D := hDO
            obtain ⟨qD, nD, rfl, _⟩ := hDO.1.form
            have L5 : LstO pairK 58 w5 (g + 2) o (.slice pq X.length pn) X := HK.out.2.2.1.more hb5
            have hwr2 : g + 2 ≤ wr.heap.size := HK.out.2.1.2.2.2.2
            have HD := Lib.hid (And.intro hDO (And.intro hsm (And.intro L5 (And.intro A5 (And.intro hwr2 hb5.size)))))
            have hdz : decide ((0 : Int) < (0 : Int)) = false := rfl
            clear hDO hsm L5 A5 hwr2 hb5 PT2 hR5 ho5 hrb5 hrl5
            obtain ⟨dl, hdl⟩ : ∃ dl, dl = D.length := ⟨_, rfl⟩
            have hdl20 : dl ≤ 20000 := by omega
            rw [← hdl]
            have HDL := Lib.hid hdl
            clear hdl hDn hm20
            obtain ⟨w4, hw4⟩ : ∃ w4, w4 = wr := ⟨_, rfl⟩
            subst hw4
            go_wp2
            go_loopg [59] dl (fun gh v wx => ∃ (k : Nat) (Y : List ByteArray) (o : Option Nat) (dv : Value), v = .int .i64 (k : Int) ∧ gh = dl - k ∧ k ≤ dl ∧ Hid (PAt w wx g (.slice pq xl pn) dv ∧ LstO strK 9 wx w5.heap.size o dv Y ∧ Y = (D.map fun d => sK (kOf d.z)).take k ∧ Keep (fun b => b = g + 1) w5 wx))
            case atStart => exact ⟨0, [], none, _, rfl, rfl, Nat.zero_le _, HD.out.2.2.2.1, LstO.nil _ _ _ _, rfl, Keep.refl _ _⟩
            case round =>
              obtain ⟨k2, Y, od, dv, rfl, hg, hk2, HJ⟩ := hrel
              have HG2 := Lib.hid hg
              clear hg
              obtain ⟨dq, dn, rfl, _⟩ := HJ.out.2.1.1.form
              have h25 : g + 2 ≤ w5.heap.size := HD.out.2.2.2.1.2.2.2.2
              by_cases hlt2 : k2 < dl
              · obtain ⟨⟨ay, cy, yz⟩, hyE⟩ : ∃ y : RwD, D[k2]? = some y := ⟨D[k2]'(by rw [← HDL.out]; exact hlt2), List.getElem?_eq_getElem _⟩
                obtain ⟨gx, hox, ⟨nx, hvx⟩, hcy, hry, hby⟩ := HD.out.1.row hyE
                rw [← HDL.out] at hvx
                cases hvx
                have hgx := HD.out.1.2.1 gx hox
                have hcx : wr.cell? ⟨gx, k2, none⟩ = some (.slice ay yz.length cy) := (HJ.out.2.2.2.cell (p := ⟨gx, k2, none⟩) (cell_lt hcy) (by show ¬ gx = g + 1; have := HD.out.2.2.2.2.1; omega)).trans hcy
                have hyb : Lib.BytesIn wr ay yz.length yz := bytes_keep (xs := yz) (p := ay) hry.1.bytes HJ.out.2.2.2 (fun _ q hq e => by have e' : q.block = g + 1 := e; have := (hby q hq).1; have := HD.out.2.2.2.2.1; omega)
                have hcv := conv_str (c := cy) hyb
                have hYl : Y.length = k2 := by rw [HJ.out.2.2.1, List.length_take, List.length_map, ← HDL.out, Nat.min_eq_left hk2]
                have hx6 : strK.at' (fun b => w5.heap.size ≤ b ∧ b < wr.heap.size ∧ od ≠ some b) wr (sK (kOf yz)) := by
                  have hyl : yz.length ≤ 1048576 := hry.2
                  show (kOf yz).toArray.size ≤ 140737488351232
                  simp [kOf]; omega
                obtain ⟨i1, z1, f1, f2, f3, f4, f5⟩ := info_ofJ strInf
                obtain ⟨q8, n8, v7, w7, o7, hv8, run7, L7, k7, ho7⟩ := HJ.out.2.1.add 39 Tryz.underlying39 f1 f2 f3 f4 f5 (by decide) HJ.out.2.2.2.size hx6 (by unfold maxLen; omega) (by omega)
                cases hv8
                change (Builtin.append_ #[39, 39] 39 #[.slice dq Y.length dn, .slice (some ⟨wr.heap.size, 0, none⟩) 1 1]).run Tryz.prog (wr.alloc (.cells #[.string (sK (kOf yz))] 9)) = .ok v7 w7 at run7
                obtain ⟨q7, n7, rfl, _⟩ := L7.1.form
                obtain ⟨l7, hl7⟩ : ∃ l7, l7 = (Y ++ [sK (kOf yz)]).length := ⟨_, rfl⟩
                rw [← hl7] at run7
                have hodl : ∀ b, od = some b → w5.heap.size ≤ b := HJ.out.2.1.2.1
                have b7 := k7.blk HJ.out.1.2.1 (fun e => by have := hodl _ e; omega)
                have cX1 := HJ.out.1.2.1.cell 1
                have cz7 := b7.cell 1
                have fz7 := b7.free 1
                have b8 : Blk (w7.setCell ⟨g + 1, 1, none⟩ (.slice q7 l7 n7)) (g + 1) #[.slice pq xl pn, .slice q7 l7 n7] 41 := b7.set 1 (.slice q7 l7 n7)
                have k8 : Keep (fun k => k = g + 1) w7 (w7.setCell ⟨g + 1, 1, none⟩ (.slice q7 l7 n7)) := Keep.set (X := fun k => k = g + 1) (Keep.refl _ w7) (p := ⟨g + 1, 1, none⟩) (.inl rfl) _
                have L8 := L7.keep k8 (fun b h1 h2 e => by have e' : b = g + 1 := e; omega)
                rw [← hl7] at L8
                have P7 := HJ.out.1.keep (Y := fun k => od = some k) k7 (fun b e => by have := hodl b e; omega)
                have P8 : PAt w (w7.setCell ⟨g + 1, 1, none⟩ (.slice q7 l7 n7)) g (.slice pq xl pn) (.slice q7 l7 n7) := by
                  obtain ⟨⟨a, b, h1⟩, _, h3, h4, h5⟩ := P7
                  exact ⟨⟨a, b, k8.blk h1 (by show ¬ g = g + 1; omega)⟩, b8, h3.setCell (p := ⟨g + 1, 1, none⟩) (by show g ≤ g + 1; omega) _, h4, Nat.le_trans h5 k8.size⟩
                have K8 : Keep (fun b => b = g + 1) w5 (w7.setCell ⟨g + 1, 1, none⟩ (.slice q7 l7 n7)) := (HJ.out.2.2.2.trans' k7 (fun b e => .inr (hodl b e))).trans k8
                have Y8 : Y ++ [sK (kOf yz)] = (D.map fun d => sK (kOf d.z)).take (k2 + 1) := by
                  rw [List.take_add_one, List.getElem?_map, hyE, ← HJ.out.2.2.1]; rfl
                have H8 := Lib.hid (And.intro P8 (And.intro L8 (And.intro Y8 K8)))
                obtain ⟨yl, hyl⟩ : ∃ yl, yl = Y.length := ⟨_, rfl⟩
                rw [← hyl] at run7 cX1 cz7
                obtain ⟨ly, hly⟩ : ∃ ly, ly = yz.length := ⟨_, rfl⟩
                rw [← hly] at hcx hcv
                generalize sK (kOf yz) = ks at *
                clear b8 k8 L8 hodl P7 P8 K8 Y8 b7 L7 k7 ho7 f1 f2 f3 f4 f5 hyE hox hcy hry hby hgx hyb hYl hyl hly hl7 hx6
                go_wp2_with (at_builtin; refine wpl_append rfl _ _ 39 rfl rfl rfl run7 ?_)
                go_roundg (dl - (k2 + 1))
                case measure => rw [HG2.out]; omega
                case rel => exact ⟨k2 + 1, _, o7, _, by go_num, rfl, hlt2, H8.out⟩
              · obtain rfl : k2 = dl := by omega
                have hYa : Y = D.map fun d => sK (kOf d.z) := by rw [HJ.out.2.2.1, HDL.out]; exact List.take_of_length_le (by rw [List.length_map]; exact Nat.le_refl _)
                have hYl : Y.length = k2 := by rw [hYa, List.length_map, ← HDL.out]
                have hXl : X.length = k := HXL.out.1
                have hXx : xl = X.length := HXX.out
                have LX : LstO pairK 58 wr (g + 2) o (.slice pq X.length pn) X := HD.out.2.2.1.keep HJ.out.2.2.2 (fun b h1 h2 e => by have e' : b = g + 1 := e; omega)
                have LY : LstO strK 9 wr (g + 2) od (.slice dq Y.length dn) Y := HJ.out.2.1.base h25
                obtain ⟨okB, _⟩ := batL_ok LX.lst LY.lst (by omega) (by omega)
                have PB := rbody (batL pq pn X dq dn Y) wr okB
                change Calls Tryz.prog 46 #[.agg #[.slice pq X.length pn, .slice dq Y.length dn]] wr _ at PB
                obtain ⟨yl, hyl⟩ : ∃ yl, yl = Y.length := ⟨_, rfl⟩
                rw [← hXx, ← hyl] at PB
                have PA := HJ.out.1
                rw [← hyl] at PA
                have cX0 := PA.2.1.cell 0
                have cX1 := PA.2.1.cell 1
                have hdoc : (⟨X.map pairX, Y.map bsK⟩ : BatD) = docX (P.map RwD.z) (D.map RwD.z) := by
                  unfold docX
                  rw [← pairsR_x, ← HXL.out.2, hYa, List.map_map, List.map_map]; rfl
                have HB := Lib.hid (And.intro LX (And.intro LY (And.intro PA (And.intro hdoc (And.intro hXx (And.intro hyl (And.intro (show X.length ≤ 20000 from by omega) (show Y.length ≤ 20000 from by omega))))))))
                have PB := Lib.hid PB
                clear hYa hYl hXl hXx LX LY okB hyl PA hdoc
                go_wp2_with fail
                refine PB.out.mono ?_
                rintro e w6 ⟨hb6, hcase⟩
                rw [batL_x, HB.out.2.2.2.1] at hcase
                have AA := HB.out.2.2.1.keep (Keep.of_below (X := fun _ => False) hb6) (fun _ h => h.elim)
                rcases hcase with ⟨hcan, v, c', o', rfl, _⟩ | ⟨hcan, v, rfl⟩
                · have hF := AA.fin
                  have hL1 := (HB.out.1.more hb6).keep hF.2.2 (fun b h1 h2 e => by have e' : b = g := e; omega)
                  have hL2 := (HB.out.2.1.more hb6).keep hF.2.2 (fun b h1 h2 e => by have e' : b = g := e; omega)
                  have HF := Lib.hid (And.intro hF.1 (And.intro hF.2.1 (And.intro (hL1.base (G' := g) (by omega)).lst (And.intro (hL2.base (G' := g) (by omega)).lst (doc_yes HA.out.2.2.1 HA.out.2.2.2 HP.out.2.2.1 HD.out.2.1 hcan)))))
                  clear hF hL1 hL2 hcan hb6
                  generalize (batB (docX (List.map RwD.z P) (List.map RwD.z D))).length = bbl at *
                  obtain ⟨⟨a0, a1, bR⟩, bX, _⟩ := AA
                  have cX0 := bX.cell 0
                  have cX1 := bX.cell 1
                  have cR0 := bR.cell 0
                  have cR1 := bR.cell 1
                  have fR := bR.free
                  clear bR bX
                  go_wp2
                  refine bodyPost_ret (results_cell_tmp Tryz.results62 _ _ g 41 #[.slice pq xl pn, .slice dq yl dn] (0,0) _ rfl HF.out.1 Tryz.underlying41 rfl (by kernel_rfl)) rfl ⟨HF.out.2.1, pq, dq, xl, pn, yl, dn, .inr ⟨X, Y, by rw [HF.out.2.2.2.2, HB.out.2.2.2.1], rfl, ⟨HB.out.2.2.2.2.2.2.1, HB.out.2.2.2.2.1⟩, ⟨HB.out.2.2.2.2.2.2.2, HB.out.2.2.2.2.2.1⟩, ?_, ?_⟩⟩
                  · rw [hgw]; have h := HF.out.2.2.1; rw [← HB.out.2.2.2.2.1] at h; exact h
                  · rw [hgw]; have h := HF.out.2.2.2.1; rw [← HB.out.2.2.2.2.2.1] at h; exact h
                · have HN := Lib.hid (doc_no3 HA.out.2.2.1 HA.out.2.2.2 HP.out.2.2.1 HD.out.2.1 hcan)
                  clear hcan hb6
                  have HNo := Lib.hid (And.intro AA.fin.1 (And.intro AA.fin.2.1 HN.out))
                  obtain ⟨⟨a0, a1, bR⟩, bX, _⟩ := AA
                  have cX0 := bX.cell 0
                  have cX1 := bX.cell 1
                  have cR0 := bR.cell 0
                  have cR1 := bR.cell 1
                  have fR := bR.free
                  clear bR bX
                  go_wp2
                  exact bodyPost_ret (results_cell_tmp Tryz.results62 _ _ g 41 #[.slice pq xl pn, .slice dq yl dn] (0,0) _ rfl HNo.out.1 Tryz.underlying41 rfl (by kernel_rfl)) rfl ⟨HNo.out.2.1, pq, dq, xl, pn, yl, dn, .inl ⟨HNo.out.2.2, rfl⟩⟩
          · have HN := Lib.hid (doc_no2 HA.out.2.2.1 HA.out.2.2.2 HP.out.2.2.1 (fun d h => by rw [hsm] at h; cases h; exact h0 rfl))
            have AA := A5
            have hpos : (0 : Int) < (r2.length : Int) := by have := List.length_pos_iff.2 h0; omega
            obtain ⟨r2l, hr2l⟩ : ∃ r2l, r2l = r2.length := ⟨_, rfl⟩
            rw [← hr2l] at hpos ⊢
            have hdp : decide ((0 : Int) < (r2l : Int)) = true := decide_eq_true hpos
            clear hr2l
            clear hsm A5 hb5 PT2 hD hR5 ho5 hrb5 hrl5 h0
            have HNo := Lib.hid (And.intro AA.fin.1 (And.intro AA.fin.2.1 HN.out))
            obtain ⟨⟨a0, a1, bR⟩, bX, _⟩ := AA
            have cX0 := bX.cell 0
            have cX1 := bX.cell 1
            have cR0 := bR.cell 0
            have cR1 := bR.cell 1
            have fR := bR.free
            clear bR bX
            go_wp2
            exact bodyPost_ret (results_cell_tmp Tryz.results62 _ _ g 41 #[.slice pq xl pn, .slice none 0 0] (0,0) _ rfl HNo.out.1 Tryz.underlying41 rfl (by kernel_rfl)) rfl ⟨HNo.out.2.1, pq, none, xl, pn, 0, 0, .inl ⟨HNo.out.2.2, rfl⟩⟩
end Go.Proofs.YtbjbjgfjaopibaaGreatDoor
end

section
/- SHA-256, the document's: turned, constant. -/
namespace Go.Proofs.YtbjbjgfjaopibaaGreatDoor
open Go Go.RowKit
set_option linter.unusedSimpArgs false
set_option linter.unusedVariables false
set_option maxRecDepth 100000

theorem turned (x : B32) (n : Nat) (hn : n < 32) (w : World) :
    Calls Tryz.prog 110 #[.int .u32 (iv x), .int .i64 (n : Int)] w fun e w' => e = .returned (.int .u32 (iv (ror x n))) ∧ w = w' := by
  have OR := iv_or
  go_enter Tryz.func110, Tryz.ntmps110
  go_wp2
  go_loopg [0, 6] n (fun gh v i wx => ∃ k : Nat, k ≤ n ∧ v = .int .u32 (iv (ror x k)) ∧ i = .int .i64 (k : Int) ∧ gh = n - k ∧ wx = w)
  case atStart => exact ⟨0, Nat.zero_le _, by rw [ror_zero], rfl, rfl, rfl⟩
  case round =>
    obtain ⟨k, hk, rfl, rfl, hg, rfl⟩ := hrel
    have HGK := Lib.hid hg
    clear hg
    by_cases hlt : k < n
    · have hr := Lib.hid (ror_succ x k (by omega))
      generalize ror x k = y at *
      have s1 : Op.shift .shr .u32 (iv y) .u64 1 = pure (.int .u32 (iv (y >>> 1))) := shr32 y 1 (by decide)
      have s31 : Op.shift .shl .u32 (iv y) .u64 31 = pure (.int .u32 (iv (y <<< 31))) := shl32 y 31 (by decide)
      have hk31 : k < 31 := by omega
      go_wp2
      go_roundg (n - (k + 1))
      case measure => rw [HGK.out]; omega
      case rel =>
        refine ⟨k + 1, hlt, congrArg (fun b => Value.int .u32 (iv b)) ?_, rfl, rfl, rfl⟩
        rw [← hr.out, ← ror_or y 1 (by decide), BitVec.or_comm]
    · obtain rfl : k = n := by omega
      go_wp2
      go_ret
      exact ⟨rfl, rfl⟩
theorem kcells : (#[.int .u32 1116352408, .int .u32 1899447441, .int .u32 3049323471, .int .u32 3921009573, .int .u32 961987163, .int .u32 1508970993, .int .u32 2453635748, .int .u32 2870763221, .int .u32 3624381080, .int .u32 310598401, .int .u32 607225278, .int .u32 1426881987, .int .u32 1925078388, .int .u32 2162078206, .int .u32 2614888103, .int .u32 3248222580, .int .u32 3835390401, .int .u32 4022224774, .int .u32 264347078, .int .u32 604807628, .int .u32 770255983, .int .u32 1249150122, .int .u32 1555081692, .int .u32 1996064986, .int .u32 2554220882, .int .u32 2821834349, .int .u32 2952996808, .int .u32 3210313671, .int .u32 3336571891, .int .u32 3584528711, .int .u32 113926993, .int .u32 338241895, .int .u32 666307205, .int .u32 773529912, .int .u32 1294757372, .int .u32 1396182291, .int .u32 1695183700, .int .u32 1986661051, .int .u32 2177026350, .int .u32 2456956037, .int .u32 2730485921, .int .u32 2820302411, .int .u32 3259730800, .int .u32 3345764771, .int .u32 3516065817, .int .u32 3600352804, .int .u32 4094571909, .int .u32 275423344, .int .u32 430227734, .int .u32 506948616, .int .u32 659060556, .int .u32 883997877, .int .u32 958139571, .int .u32 1322822218, .int .u32 1537002063, .int .u32 1747873779, .int .u32 1955562222, .int .u32 2024104815, .int .u32 2227730452, .int .u32 2361852424, .int .u32 2428436474, .int .u32 2756734187, .int .u32 3204031479, .int .u32 3329325298] : Array Value) = (u32c kw 64).toArray := by kernel_rfl
theorem constant (i : Nat) (hi : i < 64) (w : World) :
    Calls Tryz.prog 111 #[.int .i64 (i : Int)] w fun e w' => e = .returned (.int .u32 (iv (kw i))) ∧ Below w.heap.size w w' := by
  have B := Lib.hid (And.intro (Blk.new w #[.int .u32 1116352408, .int .u32 1899447441, .int .u32 3049323471, .int .u32 3921009573, .int .u32 961987163, .int .u32 1508970993, .int .u32 2453635748, .int .u32 2870763221, .int .u32 3624381080, .int .u32 310598401, .int .u32 607225278, .int .u32 1426881987, .int .u32 1925078388, .int .u32 2162078206, .int .u32 2614888103, .int .u32 3248222580, .int .u32 3835390401, .int .u32 4022224774, .int .u32 264347078, .int .u32 604807628, .int .u32 770255983, .int .u32 1249150122, .int .u32 1555081692, .int .u32 1996064986, .int .u32 2554220882, .int .u32 2821834349, .int .u32 2952996808, .int .u32 3210313671, .int .u32 3336571891, .int .u32 3584528711, .int .u32 113926993, .int .u32 338241895, .int .u32 666307205, .int .u32 773529912, .int .u32 1294757372, .int .u32 1396182291, .int .u32 1695183700, .int .u32 1986661051, .int .u32 2177026350, .int .u32 2456956037, .int .u32 2730485921, .int .u32 2820302411, .int .u32 3259730800, .int .u32 3345764771, .int .u32 3516065817, .int .u32 3600352804, .int .u32 4094571909, .int .u32 275423344, .int .u32 430227734, .int .u32 506948616, .int .u32 659060556, .int .u32 883997877, .int .u32 958139571, .int .u32 1322822218, .int .u32 1537002063, .int .u32 1747873779, .int .u32 1955562222, .int .u32 2024104815, .int .u32 2227730452, .int .u32 2361852424, .int .u32 2428436474, .int .u32 2756734187, .int .u32 3204031479, .int .u32 3329325298] 122) ((Below.refl w.heap.size w).alloc (Nat.le_refl _) (.cells #[.int .u32 1116352408, .int .u32 1899447441, .int .u32 3049323471, .int .u32 3921009573, .int .u32 961987163, .int .u32 1508970993, .int .u32 2453635748, .int .u32 2870763221, .int .u32 3624381080, .int .u32 310598401, .int .u32 607225278, .int .u32 1426881987, .int .u32 1925078388, .int .u32 2162078206, .int .u32 2614888103, .int .u32 3248222580, .int .u32 3835390401, .int .u32 4022224774, .int .u32 264347078, .int .u32 604807628, .int .u32 770255983, .int .u32 1249150122, .int .u32 1555081692, .int .u32 1996064986, .int .u32 2554220882, .int .u32 2821834349, .int .u32 2952996808, .int .u32 3210313671, .int .u32 3336571891, .int .u32 3584528711, .int .u32 113926993, .int .u32 338241895, .int .u32 666307205, .int .u32 773529912, .int .u32 1294757372, .int .u32 1396182291, .int .u32 1695183700, .int .u32 1986661051, .int .u32 2177026350, .int .u32 2456956037, .int .u32 2730485921, .int .u32 2820302411, .int .u32 3259730800, .int .u32 3345764771, .int .u32 3516065817, .int .u32 3600352804, .int .u32 4094571909, .int .u32 275423344, .int .u32 430227734, .int .u32 506948616, .int .u32 659060556, .int .u32 883997877, .int .u32 958139571, .int .u32 1322822218, .int .u32 1537002063, .int .u32 1747873779, .int .u32 1955562222, .int .u32 2024104815, .int .u32 2227730452, .int .u32 2361852424, .int .u32 2428436474, .int .u32 2756734187, .int .u32 3204031479, .int .u32 3329325298] 122)))
  have i64' : (i : Int) < 64 := by omega
  go_enter Tryz.func111, Tryz.ntmps111
  go_upto_region 2 with fail
  generalize w.alloc (.cells #[.int .u32 1116352408, .int .u32 1899447441, .int .u32 3049323471, .int .u32 3921009573, .int .u32 961987163, .int .u32 1508970993, .int .u32 2453635748, .int .u32 2870763221, .int .u32 3624381080, .int .u32 310598401, .int .u32 607225278, .int .u32 1426881987, .int .u32 1925078388, .int .u32 2162078206, .int .u32 2614888103, .int .u32 3248222580, .int .u32 3835390401, .int .u32 4022224774, .int .u32 264347078, .int .u32 604807628, .int .u32 770255983, .int .u32 1249150122, .int .u32 1555081692, .int .u32 1996064986, .int .u32 2554220882, .int .u32 2821834349, .int .u32 2952996808, .int .u32 3210313671, .int .u32 3336571891, .int .u32 3584528711, .int .u32 113926993, .int .u32 338241895, .int .u32 666307205, .int .u32 773529912, .int .u32 1294757372, .int .u32 1396182291, .int .u32 1695183700, .int .u32 1986661051, .int .u32 2177026350, .int .u32 2456956037, .int .u32 2730485921, .int .u32 2820302411, .int .u32 3259730800, .int .u32 3345764771, .int .u32 3516065817, .int .u32 3600352804, .int .u32 4094571909, .int .u32 275423344, .int .u32 430227734, .int .u32 506948616, .int .u32 659060556, .int .u32 883997877, .int .u32 958139571, .int .u32 1322822218, .int .u32 1537002063, .int .u32 1747873779, .int .u32 1955562222, .int .u32 2024104815, .int .u32 2227730452, .int .u32 2361852424, .int .u32 2428436474, .int .u32 2756734187, .int .u32 3204031479, .int .u32 3329325298] 122) = w1 at *
  have ck : w1.cell? ⟨w.heap.size, i, none⟩ = some (.int .u32 (iv (kw i))) := by
    have := B.out.1
    rw [kcells] at this
    rw [this.cell, List.getElem?_toArray]; exact u32c_get kw 64 i hi
  go_wp2
  go_ret
  exact ⟨rfl, B.out.2⟩
end Go.Proofs.YtbjbjgfjaopibaaGreatDoor
end
