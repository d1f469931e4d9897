import Derived.Test.YtbjbjgfjaopibaaDoorPu18
import Derived.Test.YtbjbjgfjaopibaaDoorPu20
import Derived.Test.YtbjbjgfjaopibaaDoorPu7
import Derived.Test.YtbjbjgfjaopibaaDoorRows
import Derived.LaidMore
import Derived.OpenShut
import Derived.SevenTiedAt
import Derived.Stop.Joined
import Derived.Test.YtbjbjgfjaopibaaDoorCards
import Derived.Test.YtbjbjgfjaopibaaDoorTie
import Derived.Test.YtbjbjgfjaopibaaDoorPu10
section
/- slices.DeleteFunc over strings where something goes; journal.Keys of any prefix. -/
namespace Go.Proofs.YtbjbjgfjaopibaaDoor
open Go Go.RowKit Go.Maps
set_option linter.unusedSimpArgs false
set_option linter.unusedVariables false
set_option maxRecDepth 100000

section
variable {α : Type}
/-- what stands in the list while DeleteFunc walks: i kept, j looked at -/
structure DInv (P : α → Bool) (ss M : List α) (i j : Nat) : Prop where
  len : M.length = ss.length
  lt : i < j
  le : j ≤ ss.length
  head : M.take i = (ss.take j).filter (fun s => !P s)
  tail : M.drop j = ss.drop j
theorem DInv.idx {P : α → Bool} {ss M : List α} {i j : Nat} (h : DInv P ss M i j) : i = ((ss.take j).filter (fun s => !P s)).length := by
  rw [← h.head, List.length_take, h.len]
  have := h.lt; have := h.le
  omega
theorem DInv.start {P : α → Bool} {ss : List α} {a : Nat} (h : ss.findIdx? P = some a) : DInv P ss ss a (a + 1) := by
  obtain ⟨hl, h1, h2⟩ := List.findIdx?_eq_some_iff_getElem.1 h
  refine ⟨rfl, Nat.lt_succ_self _, hl, ?_, rfl⟩
  rw [← List.take_append_getElem hl, List.filter_append]
  have e1 : (ss.take a).filter (fun s => !P s) = ss.take a := List.filter_eq_self.2 fun x hx => by
    obtain ⟨i, hi, rfl⟩ := List.getElem_of_mem hx
    rw [List.length_take] at hi
    rw [List.getElem_take]
    simpa using h2 i (by omega)
  have e2 : [ss[a]].filter (fun s => !P s) = [] := by simp [h1]
  rw [e1, e2, List.append_nil]
theorem DInv.get {P : α → Bool} {ss M : List α} {i j : Nat} (h : DInv P ss M i j) (hj : j < ss.length) : M[j]? = some ss[j] := by
  have h1 : (M.drop j)[0]? = (ss.drop j)[0]? := by rw [h.tail]
  rw [List.getElem?_drop, List.getElem?_drop, Nat.add_zero, List.getElem?_eq_getElem hj] at h1
  exact h1
theorem drop_succ_of {P : α → Bool} {ss M : List α} {i j : Nat} (h : DInv P ss M i j) : M.drop (j + 1) = ss.drop (j + 1) := by
  rw [← List.drop_drop (i := 1) (j := j), ← List.drop_drop (i := 1) (j := j), h.tail]
theorem DInv.skip {P : α → Bool} {ss M : List α} {i j : Nat} (h : DInv P ss M i j) (hj : j < ss.length) (hp : P ss[j] = true) : DInv P ss M i (j + 1) := by
  refine ⟨h.len, Nat.lt_succ_of_lt h.lt, hj, ?_, drop_succ_of h⟩
  rw [h.head, ← List.take_append_getElem hj, List.filter_append]
  simp [hp]
theorem DInv.put {P : α → Bool} {ss M : List α} {i j : Nat} (h : DInv P ss M i j) (hj : j < ss.length) (hp : P ss[j] = false) : DInv P ss (M.set i ss[j]) (i + 1) (j + 1) := by
  have hi : i < M.length := by have := h.lt; rw [h.len]; omega
  refine ⟨by rw [List.length_set, h.len], Nat.succ_lt_succ h.lt, hj, ?_, ?_⟩
  · rw [← List.take_append_getElem hj, List.filter_append, ← h.head, ← List.take_append_getElem (l := M.set i ss[j]) (by rw [List.length_set]; exact hi), List.getElem_set_self, List.take_set_of_le (Nat.le_refl _)]
    simp [hp]
  · rw [List.drop_set_of_lt (by have := h.lt; omega)]
    exact drop_succ_of h
theorem DInv.fin {P : α → Bool} {ss M : List α} {i : Nat} (h : DInv P ss M i ss.length) : M.take i = ss.filter (fun s => !P s) ∧ i = (ss.filter (fun s => !P s)).length := by
  have h1 := h.head
  have h2 := h.idx
  rw [List.take_length] at h1 h2
  exact ⟨h1, h2⟩
end
section
variable {w : World} {e : TypeId} {k : Nat} {n cap g : Nat} {cs : List Value}
/-- several cells written -/
theorem RowV.sets : ∀ (us : List Value) (i : Nat) {w : World} {cs : List Value}, RowV w e k (.slice (some ⟨g, 0, none⟩) n cap) n cs (some g) → i + us.length ≤ n * k →
    ∃ cs', RowV (w.setCells g i us) e k (.slice (some ⟨g, 0, none⟩) n cap) n cs' (some g) ∧ cs'.take i = cs.take i ∧ Keep (fun q => q = g) w (w.setCells g i us)
  | [], i, w, cs, h, _ => ⟨cs, h, rfl, Keep.refl _ _⟩
  | u :: us, i, w, cs, h, hl => by
    rw [List.length_cons] at hl
    obtain ⟨cs', h1, h2, h3⟩ := RowV.sets us (i + 1) (h.set i u (by omega)) (by omega)
    have hi : i < cs.length := by have := h.1; omega
    refine ⟨cs', h1, ?_, ((Keep.refl _ w).set (X := fun q => q = g) (p := ⟨g, i, none⟩) (.inl rfl) u).trans h3⟩
    have e1 : cs'.take i = (cs'.take (i + 1)).take i := by rw [List.take_take, Nat.min_eq_left (Nat.le_succ _)]
    rw [e1, h2, List.take_take, Nat.min_eq_left (Nat.le_succ _), List.take_set_of_le (Nat.le_refl _)]
/-- fewer elements -/
theorem RowV.fewer (h : RowV w e k (.slice (some ⟨g, 0, none⟩) n cap) n cs (some g)) {m : Nat} (hm : m ≤ n) : RowV w e k (.slice (some ⟨g, 0, none⟩) m cap) m (cs.take (m * k)) (some g) := by
  have hmk : m * k ≤ n * k := Nat.mul_le_mul_right _ hm
  obtain ⟨hl, ⟨h1, _⟩ | ⟨g', cap', cur, h0, h1, h2, h3, h4, h5, h6⟩⟩ := h
  · cases h1
  · cases h0; cases h1
    refine ⟨by rw [List.length_take]; omega, .inr ⟨g, cap, cur, rfl, rfl, h2, by omega, h4, h5, ?_⟩⟩
    rw [← h6, List.take_take, Nat.min_eq_left hmk]
end
theorem zeroStr (w : World) : (zeroValue 9).run Tryd.prog w = .ok (.string ⟨#[]⟩) w := by kernel_rfl
set_option maxHeartbeats 6400000 in
theorem pdelete (ss : List ByteArray) (gB cap g : Nat) (P : ByteArray → Bool) (w : World) (h : RowV w 9 1 (.slice (some ⟨gB, 0, none⟩) ss.length cap) ss.length (ss.map .string) (some gB)) (hl : ss.length ≤ 1000000000000)
    (hf : ∀ wx, Keep (fun q => q = gB) w wx → ∀ k, Calls Tryd.prog 38 #[.string k, .pointer (some ⟨g, 0, none⟩)] wx fun e w' => e = .returned (.bool (P k)) ∧ w' = wx) (a : Nat) (ha : ss.findIdx? P = some a) :
    Calls Tryd.prog 37 #[.slice (some ⟨gB, 0, none⟩) ss.length cap, .func (.func 38) #[] #[.pointer (some ⟨g, 0, none⟩)]] w fun e w' =>
      e = .returned (.slice (some ⟨gB, 0, none⟩) (ss.filter (fun s => !P s)).length cap) ∧ RowV w' 9 1 (.slice (some ⟨gB, 0, none⟩) (ss.filter (fun s => !P s)).length cap) (ss.filter (fun s => !P s)).length ((ss.filter (fun s => !P s)).map .string) (some gB) ∧ Keep (fun q => q = gB) w w' := by
  have hst : StrsAt w (some ⟨gB, 0, none⟩) ss := fun i hi => by
    obtain ⟨g', cap', _, e1, _, _, _, hc, _⟩ := h.mem (by omega)
    cases e1
    exact ⟨gB, 0, rfl, by rw [Nat.zero_add, hc i (by omega), List.getElem?_map, List.getElem?_eq_getElem hi]; rfl⟩
  have PI := pindexf ss (some ⟨gB, 0, none⟩) cap g P w hst (by omega) (hf w (Keep.refl _ _))
  rw [show firstI P ss = (a : Int) from by unfold firstI; rw [ha]] at PI
  have PI := Lib.hid PI
  have han : a < ss.length := (List.findIdx?_eq_some_iff_getElem.1 ha).1
  have HH := Lib.hid (And.intro h (And.intro hf ha))
  clear h hf hst ha
  obtain ⟨n, hn⟩ : ∃ n, n = ss.length := ⟨_, rfl⟩
  rw [← hn] at hl PI han HH ⊢
  have HN := Lib.hid hn
  clear hn
  have hneg : ((a : Int) == -1) = false := beq_false_of_ne (by omega)
  go_enter Tryd.func37, Tryd.ntmps37
  go_wp2_with fail
  refine PI.out.mono ?_
  rintro e w1 ⟨rfl, rfl⟩
  go_wp2
  go_loopg [5, 6] (n - (a + 1)) (fun gh vi vj wx => ∃ (i j : Nat) (M : List ByteArray), j ≤ n ∧ i < j ∧ vi = .int .i64 (i : Int) ∧ vj = .int .i64 (j : Int) ∧ gh = n - j ∧ Hid (DInv P ss M i j ∧ RowV wx 9 1 (.slice (some ⟨gB, 0, none⟩) n cap) n (M.map .string) (some gB) ∧ Keep (fun q => q = gB) w1 wx))
  case atStart => exact ⟨a, a + 1, ss, han, Nat.lt_succ_self _, rfl, by go_num, rfl, DInv.start HH.out.2.2, HH.out.1, Keep.refl _ _⟩
  case round =>
    obtain ⟨i, j, M, hj, hij, rfl, rfl, hg, HM⟩ := hrel
    have HG := Lib.hid hg
    clear hg
    obtain ⟨g', cap', e1, e2, hcap, hcm, hgl, hcell, hfree⟩ := HM.out.2.1.mem (by omega)
    cases e1; cases e2
    have hml : M.length = n := HM.out.1.len.trans HN.out.symm
    by_cases hlt : j < n
    · have hjs : j < ss.length := by rw [← HN.out]; exact hlt
      have cj : wr.cell? ⟨gB, j, none⟩ = some (.string ss[j]) := by
        rw [hcell j (by omega), List.getElem?_map, HM.out.1.get hjs]; rfl
      have ci : ∃ u, wr.cell? ⟨gB, i, none⟩ = some u := ⟨_, by rw [hcell i (by omega), List.getElem?_map, List.getElem?_eq_getElem (by omega)]; rfl⟩
      obtain ⟨u, ci⟩ := ci
      have fi := hfree i
      have PC := Lib.hid (HH.out.2.1 wr HM.out.2.2 ss[j])
      obtain ⟨s, hs⟩ : ∃ s, s = ss[j] := ⟨_, rfl⟩
      obtain ⟨pb, hpb⟩ : ∃ pb, pb = P s := ⟨_, rfl⟩
      rw [← hs] at cj PC
      rw [← hpb] at PC
      have HS := Lib.hid (And.intro hs hpb)
      clear hs hpb hcell hfree hml
      go_wp2_with fail
      refine PC.out.mono ?_
      rintro e w2 ⟨rfl, hw⟩
      subst w2
      cases pb
      · have hI := HM.out.1.put hjs (by rw [← HS.out.1]; exact HS.out.2.symm)
        rw [← HS.out.1] at hI
        have hR := HM.out.2.1.set i (.string s) (by omega)
        have e3 : (M.map Value.string).set i (.string s) = (M.set i s).map .string := by rw [List.map_set]
        rw [e3] at hR
        have H2 := Lib.hid (And.intro hI (And.intro hR (HM.out.2.2.set (X := fun q => q = gB) (p := ⟨gB, i, none⟩) (.inl rfl) (.string s))))
        clear hI hR e3
        go_wp2
        go_roundg (n - (j + 1))
        case measure => rw [HG.out]; omega
        case rel => exact ⟨i + 1, j + 1, M.set i s, hlt, by omega, by go_num, by go_num, rfl, H2.out⟩
      · have hI := HM.out.1.skip hjs (by rw [← HS.out.1]; exact HS.out.2.symm)
        have H2 := Lib.hid hI
        clear hI
        go_wp2
        go_roundg (n - (j + 1))
        case measure => rw [HG.out]; omega
        case rel => exact ⟨i, j + 1, M, hlt, by omega, by go_num, by go_num, rfl, H2.out, HM.out.2⟩
    · obtain rfl : j = n := by omega
      have hcl : (Builtin.clear_ #[23] 0 #[.slice (some ⟨gB, i, none⟩) (j - i) (cap - i)]).run Tryd.prog wr = .ok (.tuple #[]) (wr.setCells gB i (List.replicate (j - i) (.string ⟨#[]⟩))) := Lib.run_clear_slice (P := Tryd.prog) wr 23 9 0 (.string ⟨#[]⟩) Tryd.underlying23 zeroStr rfl rfl gB i (j - i) (cap - i) (by omega) (fun t ht => by
        rw [hcell (i + t) (by omega), List.getElem?_map, List.getElem?_eq_getElem (by omega)]; rfl) (fun t ht => hfree _)
      obtain ⟨cs', hR, htk, hk⟩ := RowV.sets (List.replicate (j - i) (Value.string ⟨#[]⟩)) i HM.out.2.1 (by rw [List.length_replicate]; omega)
      have hE := HM.out.1
      rw [HN.out] at hE
      have hF := hE.fin
      have hRR := hR.fewer (m := i) (by omega)
      rw [Nat.mul_one, htk, ← List.map_take, hF.1] at hRR
      have H2 := Lib.hid (And.intro hRR (And.intro (HM.out.2.2.trans hk) hF.2))
      clear hRR hk hF hE htk hR cs' hcell hfree hml
      generalize wr.setCells gB i (List.replicate (j - i) (.string ⟨#[]⟩)) = w3 at *
      have s2 : i ≤ j := by omega
      have s4 : i < cap := by omega
      have s5 : i ≤ cap := by omega
      go_wp2
      go_ret
      rw [← H2.out.2.2]
      exact ⟨rfl, H2.out.1, H2.out.2.1⟩
/-- the keys that begin so -/
def pfx (l : KV) (pr : ByteArray) : List ByteArray := (l.map fun p => sK p.1).filter (fun k => Lib.hasPrefix k.data.toList pr.data.toList)
set_option maxHeartbeats 1600000 in
theorem jkeysP (j b : Nat) (t : Addr) (nv hv : Value) (l : KV) (N : Nat → Prop) (pr : ByteArray) (w : World) (h : Blk w j #[.pointer (some t), .map (some b), nv, hv] 30) (hM : JMap N w b l) (hs : Srt l) (hk : ∀ p ∈ l, p.1.length ≤ 100) (hl : l.length ≤ 1000000000000) :
    Calls Tryd.prog 10 #[.pointer (some ⟨j, 0, none⟩), .string pr] w fun e w' => ∃ q c o, e = .returned (.slice q (pfx l pr).length c) ∧ RowV w' 9 1 (.slice q (pfx l pr).length c) (pfx l pr).length ((pfx l pr).map .string) o ∧ (∀ g, o = some g → w.heap.size ≤ g) ∧ Below w.heap.size w w' := by
  have k0 := (Below.refl w.heap.size w).alloc (Nat.le_refl _) (.cells #[.string pr] 9)
  have b0 := Blk.new w #[.string pr] 9
  have HW := Lib.hid (And.intro (h.beyond k0) (And.intro (hM.keep (X := fun _ => False) ((Keep.refl _ w).alloc _) (fun h => h) (fun _ _ _ h => h) : JMap N (w.alloc (.cells #[.string pr] 9)) b l) (And.intro hs (And.intro hk (And.intro hl (And.intro k0 b0))))))
  clear h hM hs hk hl k0 b0
  go_enter Tryd.func10, Tryd.ntmps10
  go_upto_region 1 with fail
  generalize w.alloc (.cells #[.string pr] 9) = w0 at *
  have PN := Lib.hid (jnone j t w0 (HW.out.1.cell 0))
  have c1 : w0.cell? ⟨j, 1, none⟩ = some (.map (some b)) := HW.out.1.cell 1
  obtain ⟨D, hD, hDn, hDs⟩ := HW.out.2.1.keys HW.out.2.2.1 HW.out.2.2.2.1
  have PK := Lib.hid (callsIn_wide.1 (Tryd.maps_KeysM (some b) w0))
  have PS := Lib.hid (callsIn_wide.1 (Tryd.slices_SortedM b l.length D RV w0 hD (by rw [hDn]; unfold maxLen; have := HW.out.2.2.2.2.1; omega) (by rw [hDn]; have := HW.out.2.2.2.2.1; omega)))
  go_wp2_with (first | (refine PN.out.mono ?_; rintro e w' ⟨rfl, rfl⟩) | (refine PK.out.mono ?_; rintro e w' ⟨rfl, rfl⟩) | fail)
  refine PS.out.mono ?_
  rintro e w2 ⟨v, ss, rfl, hS, hrow, hnil, hb2⟩
  have hsl : ss.length = l.length := by
    have := congrArg List.length (hDs ss hS)
    simpa using this
  rw [hDs ss hS, hsl] at hrow
  obtain ⟨o, R, ho, _⟩ := RowV.of_owns hrow
  obtain ⟨q, c, rfl, hle, hcm, _⟩ := R.form
  have hst : StrsAt w2 q (l.map fun p => sK p.1) := fun i hi => by
    have hi' : i < l.length := by simpa using hi
    obtain ⟨g, cap, _, e1, _, _, _, hc, _⟩ := R.mem (by omega)
    cases e1
    refine ⟨g, 0, rfl, ?_⟩
    rw [Nat.zero_add, hc i (by omega)]
    simp [hi', Go.Proofs.encStr, sK]
  have hbx : Below w'.heap.size w' w2 := ((Below.refl _ w').alloc (Nat.le_refl _) (.cells #[.map (some b)] 28)).trans (hb2.mono (by simp))
  have hcx : w2.cell? ⟨w.heap.size, 0, none⟩ = some (.string pr) := (HW.out.2.2.2.2.2.2.beyond hbx).cell 0
  have hgw : w.heap.size < w'.heap.size := HW.out.2.2.2.2.2.2.lt
  have hR2 : RowV w2 9 1 (.slice q (l.map fun p => sK p.1).length c) (l.map fun p => sK p.1).length ((l.map fun p => sK p.1).map .string) o := by
    have h := R
    rw [List.map_map] at h
    rw [List.length_map, List.map_map]
    exact h
  have hln : (l.map fun p => sK p.1).length ≤ 1000000000000 := by rw [List.length_map]; exact HW.out.2.2.2.2.1
  have hlen : (l.map fun p => sK p.1).length = l.length := List.length_map _
  have hog : ∀ g, o = some g → w'.heap.size < g + 1 := fun g hg => by have h1 := (ho g hg).1; simp at h1; omega
  have PDD : Calls Tryd.prog 37 #[.slice q l.length c, .func (.func 38) #[] #[.pointer (some ⟨w.heap.size, 0, none⟩)]] w2 fun e w3 =>
      ∃ q' c' o', e = .returned (.slice q' (pfx l pr).length c') ∧ RowV w3 9 1 (.slice q' (pfx l pr).length c') (pfx l pr).length ((pfx l pr).map .string) o' ∧ (∀ g, o' = some g → w.heap.size ≤ g) ∧ Below w.heap.size w w3 := by
    have hww2 : Below w.heap.size w w2 := HW.out.2.2.2.2.2.1.trans (hbx.mono HW.out.2.2.2.2.2.1.size)
    have hpf : (l.map fun p => sK p.1).filter (fun s => !(fun k : ByteArray => !Lib.hasPrefix k.data.toList pr.data.toList) s) = pfx l pr := by
      unfold pfx; simp only [Bool.not_not]
    rw [← hlen]
    rcases hfi : (l.map fun p => sK p.1).findIdx? (fun k : ByteArray => !Lib.hasPrefix k.data.toList pr.data.toList) with _ | a
    · have hall := List.findIdx?_eq_none_iff.1 hfi
      have PD := pdelete_none (l.map fun p => sK p.1) q c w.heap.size (fun k => !Lib.hasPrefix k.data.toList pr.data.toList) w2 hst (by omega) (fun k => pnoprefix k pr w.heap.size w2 hcx) hall
      refine PD.mono ?_
      rintro e w3 ⟨rfl, hw⟩
      subst hw
      have hself : pfx l pr = l.map fun p => sK p.1 := by rw [← hpf]; exact List.filter_eq_self.2 fun x hx => by have h1 := hall x hx; simp only [Bool.not_eq_true', Bool.not_eq_false'] at h1 ⊢; simpa using h1
      rw [hself]
      exact ⟨q, c, o, rfl, hR2, fun g hg => by have := hog g hg; omega, hww2⟩
    · have hpos : 0 < (l.map fun p => sK p.1).length := by have := (List.findIdx?_eq_some_iff_getElem.1 hfi).1; omega
      obtain ⟨g, cap, rfl, e1, _, _, _, _, _⟩ := hR2.mem hpos
      cases e1
      have hgg := hog g rfl
      have PD := pdelete (l.map fun p => sK p.1) g c w.heap.size (fun k => !Lib.hasPrefix k.data.toList pr.data.toList) w2 hR2 hln (fun wx hk k => pnoprefix k pr w.heap.size wx ((hk.cell (p := ⟨w.heap.size, 0, none⟩) (cell_lt hcx) (fun e => by have e' : w.heap.size = g := e; omega)).trans hcx)) a hfi
      refine PD.mono ?_
      rintro e w3 ⟨rfl, hR3, hk3⟩
      rw [hpf] at hR3 ⊢
      exact ⟨_, c, some g, rfl, hR3, fun g' hg' => by cases hg'; omega, hww2.trans (hk3.below hww2.size (fun k hk => by omega))⟩
  have PDD := Lib.hid PDD
  clear R ho hbx hcx hst hrow hnil hb2 hS hsl hR2 hln hlen hog
  generalize l.length = ln at *
  go_wp2_with fail
  refine PDD.out.mono ?_
  rintro e w3 ⟨q', c', o', rfl, H⟩
  have HF := Lib.hid H
  clear H
  generalize hpl : (pfx l pr).length = pl at *
  have HPL := Lib.hid hpl
  clear hpl
  go_wp2
  go_ret
  rw [HPL.out]
  exact ⟨q', c', o', rfl, HF.out⟩
end Go.Proofs.YtbjbjgfjaopibaaDoor
end

section
/- JournalPuts: the law's walk. -/
namespace Go.Proofs.YtbjbjgfjaopibaaDoor
open Go Go.RowKit
set_option linter.unusedSimpArgs false
set_option linter.unusedVariables false
set_option maxRecDepth 100000

theorem cells1 {w : World} {b o : Nat} {x : Value} (h0 : w.cell? ⟨b, o, none⟩ = some x) : CellsAt w b o [x] := fun j hj => by
  have hj' : j < 1 := hj
  obtain rfl : j = 0 := by omega
  exact h0
theorem cells2 {w : World} {b o : Nat} {x y : Value} (h0 : w.cell? ⟨b, o, none⟩ = some x) (h1 : w.cell? ⟨b, o + 1, none⟩ = some y) : CellsAt w b o [x, y] := fun j hj => by
  have hj' : j < 2 := hj
  rcases (by omega : j = 0 ∨ j = 1) with rfl | rfl
  · exact h0
  · exact h1
/-- the law's batch -/
def putsX (g : Nat) (qa qb : Option Addr) (ca cb : Nat) (aa bs : List Int) : BatchD :=
  ⟨⟨some ⟨g, 0, none⟩, 3, 3, fun i => ([⟨⟨#[120]⟩, ⟨qa, ca, aa⟩⟩, ⟨⟨#[121]⟩, ⟨qa, ca, aa⟩⟩, ⟨⟨#[120]⟩, ⟨qb, cb, bs⟩⟩] : List PairD).getD i ⟨⟨#[]⟩, ⟨none, 0, []⟩⟩⟩,
   ⟨some ⟨g + 1, 0, none⟩, 2, 2, fun i => ([⟨#[121]⟩, ⟨#[122]⟩] : List ByteArray).getD i ⟨#[]⟩⟩⟩
theorem putsX_bat (g : Nat) (qa qb : Option Addr) (ca cb : Nat) (aa bs : List Int) : batX (putsX g qa qb ca cb aa bs) = ⟨[([120], aa), ([121], aa), ([120], bs)], [[121], [122]]⟩ := rfl
theorem putsX_ok {w : World} {g : Nat} {qa qb : Option Addr} {ca cb : Nat} {aa bs : List Int}
    (h1 : Blk w g #[.string ⟨#[120]⟩, .slice qa aa.length ca, .string ⟨#[121]⟩, .slice qa aa.length ca, .string ⟨#[120]⟩, .slice qb bs.length cb] 55) (h2 : Blk w (g + 1) #[.string ⟨#[121]⟩, .string ⟨#[122]⟩] 9)
    (hA : RowOf w (.slice qa aa.length ca) qa ca aa) (hB : RowOf w (.slice qb bs.length cb) qb cb bs) : BatOk w (putsX g qa qb ca cb aa bs) := by
  refine ⟨⟨Nat.le_refl _, ⟨by show (3 : Nat) ≤ 140737488351232; decide, by show (3 : Nat) ≤ 9223372036854775807; decide⟩, fun h => (by cases h), fun i hi => ?_⟩, ⟨Nat.le_refl _, ⟨by show (2 : Nat) ≤ 140737488351232; decide, by show (2 : Nat) ≤ 9223372036854775807; decide⟩, fun h => (by cases h), fun i hi => ?_⟩⟩
  · have hi' : i < 3 := hi
    obtain rfl | rfl | rfl : i = 0 ∨ i = 1 ∨ i = 2 := by omega
    · exact ⟨g, 0, rfl, rfl, cells2 (h1.cell 0) (h1.cell 1), by show (1 : Nat) ≤ 140737488351232; decide, hA, hA.len⟩
    · exact ⟨g, 0, rfl, rfl, cells2 (h1.cell 2) (h1.cell 3), by show (1 : Nat) ≤ 140737488351232; decide, hA, hA.len⟩
    · exact ⟨g, 0, rfl, rfl, cells2 (h1.cell 4) (h1.cell 5), by show (1 : Nat) ≤ 140737488351232; decide, hB, hB.len⟩
  · have hi' : i < 2 := hi
    obtain rfl | rfl : i = 0 ∨ i = 1 := by omega
    · exact ⟨g + 1, 0, rfl, rfl, cells1 (h2.cell 0), by show (1 : Nat) ≤ 140737488351232; decide⟩
    · exact ⟨g + 1, 0, rfl, rfl, cells1 (h2.cell 1), by show (1 : Nat) ≤ 140737488351232; decide⟩
theorem putsX_len {aa bs : List Int} (ha : aa.length ≤ 1000) (hb : bs.length ≤ 1000) : (batB ⟨[([120], aa), ([121], aa), ([120], bs)], [[121], [122]]⟩).length ≤ 4000 := by
  have e1 := encS_ne 3
  have e2 := encS_ne 2
  have a1 := txtB_len aa
  have b1 := txtB_len bs
  have k1 : (txtB (kb [120])).length ≤ 10 := by decide
  have k2 : (txtB (kb [121])).length ≤ 10 := by decide
  have k3 : (txtB (kb [122])).length ≤ 10 := by decide
  show (encS 3 ++ ((putB ([120], aa) ++ (putB ([121], aa) ++ (putB ([120], bs) ++ []))) ++ (encS 2 ++ (delB [121] ++ (delB [122] ++ []))))).length ≤ 4000
  simp only [List.length_append, List.length_nil, putB, delB]
  omega
theorem com_fit {s : JS} {x : BatD} (h1 : s.fu = -1) (h2 : s.hd = false) (h3 : (s.xs.length : Int) + (frmX x).length ≤ s.ro) (hc : CanB x) :
    (comS s x).1 = 0 ∧ (comS s x).2.l = doK s.l x ∧ (comS s x).2.n = s.n + 1 ∧ (comS s x).2.hd = false := by
  unfold comS
  have ha : appE s.xs.length (frmX x).length s.ro s.fu = 0 := by unfold appE; rw [h1, if_neg (by decide), if_neg (by omega)]
  have hb : burnE (burn s.fu) = 0 := by rw [h1]; rfl
  rw [if_neg (fun f => f hc), if_neg (by rw [h2]; decide), if_neg (fun f => f ha), if_neg (fun f => f hb)]
  exact ⟨rfl, rfl, rfl, h2⟩
theorem putsX_can {aa bs : List Int} (ha : aa.length ≤ 1000) (hb : bs.length ≤ 1000) : CanB ⟨[([120], aa), ([121], aa), ([120], bs)], [[121], [122]]⟩ := by
  refine ⟨(by show (3 : Nat) ≤ 20000; decide), (by show (2 : Nat) ≤ 20000; decide), fun p hp => ?_, fun k hk => ?_, Nat.le_trans (putsX_len ha hb) (by decide)⟩
  · simp only [List.mem_cons, List.not_mem_nil, or_false] at hp
    rcases hp with rfl | rfl | rfl
    · exact finePut_iff.2 ⟨⟨by show (0 : Nat) < 1; decide, by show (1 : Nat) ≤ 100; decide⟩, by show aa.length ≤ 60000; omega⟩
    · exact finePut_iff.2 ⟨⟨by show (0 : Nat) < 1; decide, by show (1 : Nat) ≤ 100; decide⟩, by show aa.length ≤ 60000; omega⟩
    · exact finePut_iff.2 ⟨⟨by show (0 : Nat) < 1; decide, by show (1 : Nat) ≤ 100; decide⟩, by show bs.length ≤ 60000; omega⟩
  · simp only [List.mem_cons, List.not_mem_nil, or_false] at hk
    rcases hk with rfl | rfl <;> decide
theorem putsX_x (bs : List Int) : getK [([120], bs)] (bsK ⟨#[120]⟩) = some bs := by kernel_rfl
theorem putsX_y (bs : List Int) : getK [([120], bs)] (bsK ⟨#[121]⟩) = none := by kernel_rfl
theorem putsX_k0 (bs : List Int) : pfx [([120], bs)] ⟨#[]⟩ = [⟨#[120]⟩] := by kernel_rfl
theorem putsX_k1 (bs : List Int) : pfx [([120], bs)] ⟨#[121]⟩ = [] := by kernel_rfl
theorem putsX_do (aa bs : List Int) : doK [] ⟨[([120], aa), ([121], aa), ([120], bs)], [[121], [122]]⟩ = [([120], bs)] := by kernel_rfl
set_option maxHeartbeats 12800000 in
theorem puts_walk (qa qb : Option Addr) (ca cb la lb : Nat) (aa bs : List Int) (W : World) (G : Glob W) (hla : la ≤ 9223372036854775807) (hlb : lb ≤ 9223372036854775807)
    (h1 : min (la : Int) 1000 = (aa.length : Int)) (h2 : min (lb : Int) 1000 = (bs.length : Int)) (hA : RowOf W (.slice qa aa.length ca) qa ca aa) (hB : RowOf W (.slice qb bs.length cb) qb cb bs) :
    Calls Tryd.prog 5 #[.slice qa la ca, .slice qb lb cb] W fun e w' => e = .returned (.bool true) ∧ Below W.heap.size W w' := by
  have ha1 : aa.length ≤ 1000 := by omega
  have hb1 : bs.length ≤ 1000 := by omega
  have hca := hA.cap
  have hcb := hB.cap
  have HA := Lib.hid hA
  have HB := Lib.hid hB
  have HG := Lib.hid G
  clear hA hB G
  obtain ⟨al, hal⟩ : ∃ al, al = aa.length := ⟨_, rfl⟩
  obtain ⟨bl, hbl⟩ : ∃ bl, bl = bs.length := ⟨_, rfl⟩
  rw [← hal] at h1 ha1 hca
  rw [← hbl] at h2 hb1 hcb
  have HL := Lib.hid (And.intro hal hbl)
  clear hal hbl
  go_enter Tryd.func5, Tryd.ntmps5
  go_wp2
  go_region
  generalize hw0 : W.drew = w0 at *
  have PN := Lib.hid (tnew 1048576 w0 (by decide) (by decide))
  have HW0 := Lib.hid (show Below W.heap.size W w0 ∧ Glob w0 from by rw [← hw0]; exact ⟨(Below.refl _ _).drew, HG.out.drew⟩)
  clear h1 h2 hw0
  go_wp2_with fail
  refine PN.out.mono ?_
  rintro e w1 ⟨p, o, rfl, hT, hp, ho, hb1'⟩
  have hTW : TW w0 w1 p o [] 0 1048576 (-1) := ⟨hb1', HW0.out.2, Byt.nil, by decide, by decide, by decide, by decide, by decide, by decide, by decide, hT, fun k hk => by
    rcases hk with rfl | hk
    · exact hp
    · exact ho k hk⟩
  have PO := jw_open hTW
  rw [opn_nil] at PO
  have PO := Lib.hid PO
  clear hT hp ho hb1' hTW
  go_wp2_with fail
  refine PO.out.mono ?_
  rintro e w2 ⟨k2, ⟨h150, _⟩ | ⟨_, j, b, rfl, hj, hb, hJ, hW⟩⟩
  · exact absurd h150 (by decide)
  have HW := Lib.hid hW
  clear k2 hj hb hJ hW
  go_wp2_with fail
  have L := two_blocks w2 #[.string ⟨#[120]⟩, .slice qa aa.length ca, .string ⟨#[121]⟩, .slice qa aa.length ca, .string ⟨#[120]⟩, .slice qb bs.length cb] #[.string ⟨#[121]⟩, .string ⟨#[122]⟩] 55 9
  have HJ3 := HW.out.more L.2.2
  have hW2 : Below W.heap.size W w2 := HW0.out.1.trans (HW.out.bel.mono HW0.out.1.size)
  have hbl3 : Below W.heap.size W ((w2.alloc (.cells #[.string ⟨#[120]⟩, .slice qa aa.length ca, .string ⟨#[121]⟩, .slice qa aa.length ca, .string ⟨#[120]⟩, .slice qb bs.length cb] 55)).alloc (.cells #[.string ⟨#[121]⟩, .string ⟨#[122]⟩] 9)) := hW2.trans (L.2.2.mono hW2.size)
  have hX := putsX_ok L.1 L.2.1 (HA.out.below hbl3) (HB.out.below hbl3)
  have hXN : BatIn (fun g => ¬ foot p o g ∧ g ≠ j ∧ g ≠ b) (putsX w2.heap.size qa qb ca cb aa bs) := by
    have hf := HW.out.tape.lt
    have hl := HW.out.jat.lt
    have hnew : ∀ g, w2.heap.size ≤ g → ¬ foot p o g ∧ g ≠ j ∧ g ≠ b := fun g hg => ⟨fun h => by have := hf g h; omega, by omega, by omega⟩
    have hold : ∀ g, g < W.heap.size → ¬ foot p o g ∧ g ≠ j ∧ g ≠ b := fun g hg => by
      have h0 := HW0.out.1.size
      exact ⟨fun h => by have := (HW.out.ft g h).1; omega, by have := HW.out.own.1; omega, by have := HW.out.own.2; omega⟩
    refine ⟨fun _ q hq => by cases hq; exact hnew _ (Nat.le_refl _), fun _ q hq => by cases hq; exact hnew _ (Nat.le_succ _), fun i hi h0 q hq => ?_⟩
    have hi' : i < 3 := hi
    obtain rfl | rfl | rfl : i = 0 ∨ i = 1 ∨ i = 2 := by omega
    · exact hold _ (HA.out.there q hq h0)
    · exact hold _ (HA.out.there q hq h0)
    · exact hold _ (HB.out.there q hq h0)
  have PC := jw_commitN HJ3 hX hXN
  rw [putsX_bat] at PC
  obtain ⟨hc1, hc2, hc3, hc4⟩ := com_fit (s := ⟨[], 0, 1048576, -1, [], 0, false⟩) (x := ⟨[([120], aa), ([121], aa), ([120], bs)], [[121], [122]]⟩) rfl rfl (by
    have h := putsX_len (aa := aa) (bs := bs) (by rw [← HL.out.1]; exact ha1) (by rw [← HL.out.2]; exact hb1)
    show ((0 : Nat) : Int) + ((frmX _).length : Int) ≤ 1048576
    unfold frmX; rw [frmB_len]; omega) (putsX_can (by rw [← HL.out.1]; exact ha1) (by rw [← HL.out.2]; exact hb1))
  rw [hc1] at PC
  change _ = doK [] _ at hc2
  rw [putsX_do] at hc2
  generalize (comS ⟨[], 0, 1048576, -1, [], 0, false⟩ ⟨[([120], aa), ([121], aa), ([120], bs)], [[121], [122]]⟩).2 = s4 at *
  have HS4 := Lib.hid (And.intro hc2 (And.intro hc3 hc4))
  have HB3 := Lib.hid hbl3
  clear hc1 hc2 hc3 hc4 hX hXN HJ3 hW2 hbl3
  change Calls Tryd.prog 9 #[.pointer (some ⟨j, 0, none⟩), .agg #[.slice (some ⟨w2.heap.size, 0, none⟩) 3 3, .slice (some ⟨w2.heap.size + 1, 0, none⟩) 2 2]] _ _ at PC
  rw [← HL.out.1, ← HL.out.2] at PC
  have PC := Lib.hid PC
  clear L
  refine PC.out.mono ?_
  rintro e w4 ⟨o4, rfl, HJ4, _, _⟩
  have hW4 : Below W.heap.size W w4 := HW0.out.1.trans (HJ4.bel.mono HW0.out.1.size)
  have h4l := HJ4.jat.2.1
  have h4b := HJ4.jat.1
  rw [HS4.out.1] at h4l
  have PG := jget j b ⟨p, 0, none⟩ _ _ _ _ ⟨#[120]⟩ w4 h4b h4l (by decide) (by rw [putsX_x]; show bs.length ≤ _; rw [← HL.out.2]; omega)
  rw [putsX_x] at PG
  change Calls Tryd.prog 8 #[.pointer (some ⟨j, 0, none⟩), .string ⟨#[120]⟩] w4 (fun e w' => ∃ q c o, e = .returned (.tuple #[.slice q bs.length c, .bool true]) ∧ Row w' 5 (.slice q bs.length c) bs o ∧ (∀ g, o = some g → w4.heap.size ≤ g) ∧ Below w4.heap.size w4 w') at PG
  rw [← HL.out.2] at PG
  have PG := Lib.hid PG
  have H4 := Lib.hid (And.intro HJ4 (And.intro hW4 h4l))
  clear HJ4 hW4 h4l h4b PC
  go_wp2_with fail
  refine PG.out.mono ?_
  rintro e w5 ⟨q5, c5, o5, rfl, hR5, _, hb5⟩
  have PG := jget j b ⟨p, 0, none⟩ _ _ _ _ ⟨#[121]⟩ w5 (H4.out.1.more hb5).jat.1 (H4.out.2.2.keep (X := fun _ => False) (Keep.of_below hb5) (fun h => h) (fun _ _ _ h => h)) (by decide) (by rw [putsX_y]; decide)
  rw [putsX_y] at PG
  change Calls Tryd.prog 8 #[.pointer (some ⟨j, 0, none⟩), .string ⟨#[121]⟩] w5 (fun e w' => ∃ q c o, e = .returned (.tuple #[.slice q 0 c, .bool false]) ∧ Row w' 5 (.slice q 0 c) [] o ∧ (∀ g, o = some g → w5.heap.size ≤ g) ∧ Below w5.heap.size w5 w') at PG
  have PG := Lib.hid PG
  have H5 := Lib.hid (And.intro hR5 hb5)
  clear hR5 hb5
  go_wp2_with fail
  refine PG.out.mono ?_
  rintro e w6 ⟨q6, c6, o6, rfl, _, _, hb6⟩
  have hb46 := H5.out.2.trans (hb6.mono H5.out.2.size)
  have hr5 : Row w6 5 (.slice q5 bl c5) bs o5 := H5.out.1.keep (Keep.of_below (X := fun _ => False) hb6) (fun _ _ h => h)
  have PE := Tryd.bytes_Equal_all q5 qb bl c5 bl cb bs bs w6 HL.out.2.symm HL.out.2.symm (by obtain ⟨_, _, e2, hy2, _⟩ := hr5.form; cases e2; exact hy2) (by have h := (HB.out.below (H4.out.2.1.trans (hb46.mono H4.out.2.1.size))).bytes; rw [← HL.out.2] at h; exact h)
  rw [beq_self_eq_true] at PE
  have PE := Lib.hid PE
  have PK := jkeysP j b ⟨p, 0, none⟩ _ _ _ _ ⟨#[]⟩ w6 (H4.out.1.more hb46).jat.1 (H4.out.2.2.keep (X := fun _ => False) (Keep.of_below hb46) (fun h => h) (fun _ _ _ h => h)) (by rw [← HS4.out.1]; exact H4.out.1.ok.srt) (by rw [← HS4.out.1]; exact fun q hq => (H4.out.1.ok.kv q hq).1) (by show (1 : Nat) ≤ _; decide)
  rw [putsX_k0] at PK
  change Calls Tryd.prog 10 #[.pointer (some ⟨j, 0, none⟩), .string ⟨#[]⟩] w6 (fun e w' => ∃ q c o, e = .returned (.slice q 1 c) ∧ RowV w' 9 1 (.slice q 1 c) 1 [.string ⟨#[120]⟩] o ∧ (∀ g, o = some g → w6.heap.size ≤ g) ∧ Below w6.heap.size w6 w') at PK
  have PK := Lib.hid PK
  have H6 := Lib.hid hb46
  clear hr5 hb46 hb6
  go_wp2_with fail
  refine PE.out.mono ?_
  rintro e w6' ⟨rfl, hw⟩
  subst w6'
  go_wp2_with fail
  refine PK.out.mono ?_
  rintro e w7 ⟨q7, c7, o7, rfl, hR7, _, hb7⟩
  obtain ⟨g7, cap7, rfl, e7, _, _, _, hc7, _⟩ := hR7.mem (by decide)
  cases e7
  have hb47 := H6.out.trans (hb7.mono H6.out.size)
  have H7 := Lib.hid (And.intro (hc7 0 (by decide)) hb47)
  clear hR7 hb7 hc7 hb47
  go_wp2_with fail
  have b8 := Blk.new w7 #[.string ⟨#[120]⟩] 9
  have k8 := (Below.refl w7.heap.size w7).alloc (Nat.le_refl _) (.cells #[.string ⟨#[120]⟩] 9)
  have PQ := Tryd.slices_Equal_string g7 0 1 c7 w7.heap.size 0 1 1 [⟨#[120]⟩] [⟨#[120]⟩] (w7.alloc (.cells #[.string ⟨#[120]⟩] 9)) (Nat.le_refl _) (Nat.le_refl _) (by decide) (by decide) (fun j hj => by
    have hj' : j < 1 := hj
    obtain rfl : j = 0 := by omega
    have h := H7.out.1
    exact (((Keep.refl (fun _ => False) w7).alloc _).cell (cell_lt h) (fun h => h)).trans h) (fun j hj => by
    have hj' : j < 1 := hj
    obtain rfl : j = 0 := by omega
    exact b8.cell 0)
  rw [decide_eq_true (rfl : ([⟨#[120]⟩] : List ByteArray).take 1 = ([⟨#[120]⟩] : List ByteArray).take 1)] at PQ
  have hb48 := H7.out.2.trans (k8.mono H7.out.2.size)
  have HB8 := Lib.hid hb48
  clear b8 k8 hb48
  generalize w7.alloc (.cells #[.string ⟨#[120]⟩] 9) = w8 at *
  refine PQ.mono ?_
  rintro e w9 ⟨rfl, nd, hw9⟩
  have hb49 : Below w4.heap.size w4 w9 := by rw [hw9]; exact HB8.out.trans ((below_drewN w8 nd).mono HB8.out.size)
  have HJ9 := H4.out.1.more hb49
  have PB := jbatches j ⟨p, 0, none⟩ _ _ _ w9 HJ9.jat.1
  rw [HS4.out.2.1] at PB
  change Calls Tryd.prog 11 #[.pointer (some ⟨j, 0, none⟩)] w9 (fun e w' => e = .returned (.int .i64 1) ∧ w' = w9) at PB
  have PB := Lib.hid PB
  have PK := jkeysP j b ⟨p, 0, none⟩ _ _ _ _ ⟨#[121]⟩ w9 HJ9.jat.1 (H4.out.2.2.keep (X := fun _ => False) (Keep.of_below hb49) (fun h => h) (fun _ _ _ h => h)) (by rw [← HS4.out.1]; exact H4.out.1.ok.srt) (by rw [← HS4.out.1]; exact fun q hq => (H4.out.1.ok.kv q hq).1) (by show (1 : Nat) ≤ _; decide)
  rw [putsX_k1] at PK
  change Calls Tryd.prog 10 #[.pointer (some ⟨j, 0, none⟩), .string ⟨#[121]⟩] w9 (fun e w' => ∃ q c o, e = .returned (.slice q 0 c) ∧ RowV w' 9 1 (.slice q 0 c) 0 [] o ∧ (∀ g, o = some g → w9.heap.size ≤ g) ∧ Below w9.heap.size w9 w') at PK
  have PK := Lib.hid PK
  have HF := Lib.hid (H4.out.2.1.trans (hb49.mono H4.out.2.1.size))
  clear hw9 hb49 HJ9 PQ
  go_wp2_with fail
  refine PB.out.mono ?_
  rintro e w9' ⟨rfl, hw⟩
  subst w9'
  go_wp2_with fail
  refine PK.out.mono ?_
  rintro e w10 ⟨q10, c10, o10, rfl, _, _, hb10⟩
  have HF2 := Lib.hid (HF.out.trans (hb10.mono HF.out.size))
  clear hb10
  go_wp2
  go_ret
  exact ⟨rfl, HF2.out⟩
theorem row_takeJ {w : World} {A : Option Addr} {C m : Nat} {Z : List Int} (h : RowOf w (.slice A Z.length C) A C Z) : RowOf w (.slice A (Z.take m).length C) A C (Z.take m) := by
  have hl : (Z.take m).length ≤ Z.length := by rw [List.length_take]; omega
  refine ⟨rfl, ?_, Nat.le_trans hl h.len, Nat.le_trans hl h.cap, h.most, h.none, fun y hy => h.range y (List.mem_of_mem_take hy), fun q hq h0 => h.there q hq (by omega)⟩
  have e : Z.take m = Z.take (min m Z.length) := by rw [List.take_eq_take_iff]; omega
  rw [e]
  exact bytes_takeJ h.bytes (Nat.min_le_right _ _) rfl
theorem puts_full (qa : Option Addr) (ca : Nat) (xs : List Int) (qb : Option Addr) (cb : Nat) (ys : List Int) (W : World) (G : Glob W)
    (ha : Lib.BytesIn W qa xs.length xs) (la : xs.length ≤ 140737488351232) (hca : xs.length ≤ ca) (ra : ∀ x ∈ xs, 0 ≤ x ∧ x ≤ 255) (na : qa = none → ca = 0) (ma : ca ≤ 140737488351232)
    (hb : Lib.BytesIn W qb ys.length ys) (lb : ys.length ≤ 140737488351232) (hcb : ys.length ≤ cb) (rb : ∀ x ∈ ys, 0 ≤ x ∧ x ≤ 255) (nb : qb = none → cb = 0) (mb : cb ≤ 140737488351232) :
    Calls Tryd.prog 5 #[.slice qa xs.length ca, .slice qb ys.length cb] W fun e w' => e = .returned (.bool true) ∧ Below W.heap.size W w' := by
  have th : ∀ {q : Option Addr} {zs : List Int}, Lib.BytesIn W q zs.length zs → ∀ p, q = some p → 0 < zs.length → p.block < W.heap.size := fun h p hp h0 => by
    obtain ⟨b, o, e1, hc⟩ := h.at h0
    rw [e1] at hp; cases hp
    exact cell_lt (hc 0 h0)
  have hA : RowOf W (.slice qa xs.length ca) qa ca xs := ⟨rfl, ha, la, hca, by omega, na, ra, th ha⟩
  have hB : RowOf W (.slice qb ys.length cb) qb cb ys := ⟨rfl, hb, lb, hcb, by omega, nb, rb, th hb⟩
  exact puts_walk qa qb ca cb xs.length ys.length (xs.take 1000) (ys.take 1000) W G (by omega) (by omega) (by rw [List.length_take]; omega) (by rw [List.length_take]; omega) (row_takeJ hA) (row_takeJ hB)
end Go.Proofs.YtbjbjgfjaopibaaDoor
end

section
/- The laid tables of sha, read. -/
namespace Go.Proofs.YtbjbjgfjaopibaaDoor
open Go Go.RowKit Go.ChangeShapes Go.WideShapes
set_option maxRecDepth 100000

theorem gFirst : Tryd.prog.globalNamed "sporran/sha.first" = some 0 := by kernel_rfl
theorem gWords : Tryd.prog.globalNamed "sporran/sha.words" = some 1 := by kernel_rfl
theorem tFirst : (Tryd.prog.globals[0]?).map (·.type) = some 129 := by kernel_rfl
theorem tWords : (Tryd.prog.globals[1]?).map (·.type) = some 144 := by kernel_rfl
theorem u32cells : Tryd.prog.cellsOf 125 = 1 := by kernel_rfl
/-- an array of words of 32 bits, read -/
theorem trod_u32s {H : Type} {enc : TypeId × Value → H} {w : World} {base : Nat} {spare : Nat → Bool} {held : Bool} {fuel n : Nat} {t : TypeId} {cs : List Value} {d : DataW H} {ps : List MemPlace} (L : List Int)
    (ht : Tryd.prog.underlying t = some (.array n 125)) (h : DataW.trod enc Tryd.prog w base spare held fuel t cs = some (d, ps)) (hd : d = .agg (L.map fun k => .lit (.int .u32 k))) (hL : L.length = n) (hct : Tryd.prog.cellsOf t = n) :
    ∀ i, i < n → cs[i]? = some (.int .u32 (L.getD i 0)) := by
  obtain ⟨xs, m, _, hx, hl, hn, hi⟩ := DataW.trod_array ht h
  rw [u32cells] at hi
  rw [hct] at hl
  intro i hlt
  have h1 := hi i hlt
  rw [Nat.mul_one] at h1
  obtain ⟨x, hxi⟩ : ∃ x, xs[i]? = some x := ⟨xs[i]'(by omega), List.getElem?_eq_getElem (by omega)⟩
  rw [hxi] at h1
  have hc : cs[i]? = some (cs[i]'(by omega)) := List.getElem?_eq_getElem (by omega)
  have h2 : (cs.drop i).take 1 = [cs[i]'(by omega)] := by simp [List.take_one, hc]
  rw [h2] at h1
  obtain ⟨z, e0, e1, _⟩ := DataW.trod_int Tryd.underlying125 h1
  rw [hc]
  simp at e0
  rw [e0]
  have e2 : xs.map (·.1) = L.map fun k => .lit (.int .u32 k) := by
    simp only [Prod.mk.injEq] at hx
    have := hx.1.symm.trans hd
    simpa using this
  have e3 := congrArg (fun l : List (DataW H) => l[i]?) e2
  simp only [List.getElem?_map, hxi, Option.map_some] at e3
  have hLi : L[i]? = some (L.getD i 0) := by
    rw [List.getD_eq_getElem?_getD, List.getElem?_eq_getElem (by omega)]; rfl
  rw [hLi, Option.map_some, e1] at e3
  simp at e3
  rw [e3]; simp [List.getD_eq_getElem?_getD]
def s0L : List Int := [0x6a09e667, 0xbb67ae85, 0x3c6ef372, 0xa54ff53a, 0x510e527f, 0x9b05688c, 0x1f83d9ab, 0x5be0cd19]
def kwL : List Int := shaK.map fun (n : Nat) => (n : Int)
theorem s0L_iv (i : Nat) (hi : i < 8) : s0L.getD i 0 = iv (s0 i) := by
  rcases (by omega : i = 0 ∨ i = 1 ∨ i = 2 ∨ i = 3 ∨ i = 4 ∨ i = 5 ∨ i = 6 ∨ i = 7) with h | h | h | h | h | h | h | h <;> subst h <;> kernel_rfl
theorem shaK_lt : ∀ i, i < 64 → shaK.getD i 0 < 4294967296 := by decide +kernel
theorem kwL_iv (i : Nat) (hi : i < 64) : kwL.getD i 0 = iv (kw i) := by
  unfold kwL kw iv
  rw [BitVec.toNat_ofNat, Nat.mod_eq_of_lt (shaK_lt i hi), List.getD_eq_getElem?_getD, List.getElem?_map, List.getD_eq_getElem?_getD]
  have : shaK[i]? = some (shaK[i]'(by rw [show shaK.length = 64 from rfl]; exact hi)) := List.getElem?_eq_getElem _
  rw [this]; rfl
theorem glob_of {W : World} (h : laidMetH Tryd.prog [("sporran/sha.words", Rows.laid_sporran_sha_words), ("sporran/sha.first", Rows.laid_sporran_sha_first)] W) : Glob W := by
  rw [MakeChecks.laidMetH_plain _ _ _ (by kernel_rfl)] at h
  obtain ⟨ps, ⟨g0, t0, cs0, f0, p0, q0, hg0, ht0, hv0, hd0, ⟨g1, t1, cs1, f1, p1, q1, hg1, ht1, hv1, hd1, _, _⟩, _⟩, _, _⟩ := h
  obtain rfl := Option.some.inj (gWords.symm.trans hg0)
  obtain rfl := Option.some.inj (gFirst.symm.trans hg1)
  obtain rfl := Option.some.inj (tWords.symm.trans ht0)
  obtain rfl := Option.some.inj (tFirst.symm.trans ht1)
  refine ⟨fun i hi => ?_, fun i hi => ?_⟩
  · have hc := trod_u32s s0L Tryd.underlying129 hd1 (by kernel_rfl) rfl (by kernel_rfl) i hi
    have := World.var?_cell hg1 hv1 i
    rw [this]
    rw [s0L_iv i hi] at hc
    simpa using hc
  · have hc := trod_u32s kwL Tryd.underlying144 hd0 (by kernel_rfl) rfl (by kernel_rfl) i hi
    have := World.var?_cell hg0 hv0 i
    rw [this]
    rw [kwL_iv i hi] at hc
    simpa using hc
end Go.Proofs.YtbjbjgfjaopibaaDoor
end

section
/- The statement JournalPuts: for every input the law returns true, and its arguments read as before. No condition. -/
namespace Go.Proofs.YtbjbjgfjaopibaaDoor
open Go.ChangeShapes Go.WideShapes Go.ChangeAt Go.RowKit
set_option linter.unusedVariables false

set_option maxRecDepth 100000 in
/-- The door's own heap meets the condition. -/
theorem door_met_journalPuts (os : Os) (args : Array Value) : laidMetH Tryd.prog Rows.journalPutsRow.laid ((World.doorLaid Tryd.prog 19 os).forCall (fun _ _ => 0) ⟨#[], args, []⟩).memory :=
  laidMetH_of_parts3 (fuel := 8) (laidMet_of_run' 8 (by kernel_rfl) (by kernel_rfl)) (by kernel_rfl) (by kernel_rfl)
set_option maxRecDepth 100000 in
theorem journalPuts_lifted (os : Os) (started : os.Started) (H : Type) (enc : TypeId × Value → H) :
    ReturnsInHanded {} Tryd.checked os 5 .any (fun w args => (Rows.journalPutsSpec.pre enc Tryd.prog Tryd.f5 [] false w args ∧ laidMetH Tryd.prog Rows.journalPutsRow.laid w) ∧ sizedMet enc Tryd.prog Tryd.f5 (OpenSpec.ofChange Rows.journalPutsSpec) false w args) (Rows.journalPutsSpec.post enc Tryd.prog Tryd.f5 false true false false) := by
  refine returnsInHanded_of_change_and (C := Tryd.checked) (X := fun w _ => laidMetH Tryd.prog Rows.journalPutsRow.laid w) (fun _ _ _ hh h => h.of_heap hh) Tryd.own started (by kernel_rfl) Tryd.func5
    (ChangeSpec.witness_shaped (enc := enc) (C := Tryd.checked) (os := os) (X := fun w _ => laidMetH Tryd.prog Rows.journalPutsRow.laid w) false (World.doorLaid Tryd.prog 19 os) #[.slice none 0 0, .slice none 0 0] 8 rfl (World.shaped_of_RefB (by kernel_rfl) (by kernel_rfl)) (by kernel_rfl) (by kernel_rfl) (by kernel_rfl) (door_met_journalPuts os _)) ?_
  intro W base args ds gs before hval0 hW hcnd hsz0 hL _
  have hsz : (DataW.weightsEach Tryd.prog (Tryd.f5.params.toList ++ Rows.journalPutsSpec.plain.varTypes Tryd.prog) (ds ++ gs)).all (· ≤ reachBytes) = true := hsz0
  clear hsz0
  have hval : ∀ (j : Nat) t v, Tryd.f5.params[j]? = some t → args[j]? = some v → Value.okWide Tryd.prog W .any base t v := hval0
  have hW' := hW
  obtain ⟨p, q, hA0, hV, rfl, hfz, hnd⟩ := hW
  have hA : DataW.TrodAll enc Tryd.prog W 0 (fun _ => true) true Tryd.f5.params.toList args.toList ds p := hA0
  rw [Tryd.params5] at hA hval hsz
  obtain ⟨v0, vs0, d0, ds0, p0, q0, hargs, rfl, rfl, h0, r0⟩ := trodAll_cons hA
  obtain ⟨v1, vs1, d1, ds1, p1, q1, rfl, rfl, rfl, h1, r1⟩ := trodAll_cons r0
  obtain ⟨rfl, rfl, rfl⟩ := trodAll_nil r1
  obtain rfl : args = #[v0, v1] := by cases args; simp_all
  obtain ⟨rfl, rfl⟩ := trodVars_none hV
  have k0 := h0
  have lt0 : ∀ x ∈ p0, x.block < W.heap.size := by obtain ⟨m, hm⟩ := k0; exact DataW.trod_lt m _ _ _ hm
  have k1 := h1
  have lt1 : ∀ x ∈ p1, x.block < W.heap.size := by obtain ⟨m, hm⟩ := k1; exact DataW.trod_lt m _ _ _ hm
  obtain ⟨a0, c0, x0, rfl, n0, w0, m0, y0, _, z0, k0'⟩ := open_bytesS (hval 0 32 v0 rfl rfl) h0 hsz (jj := 0) rfl rfl
  obtain ⟨a1, c1, x1, rfl, n1, w1, m1, y1, _, z1, k1'⟩ := open_bytesS (hval 1 32 v1 rfl rfl) h1 hsz (jj := 1) rfl rfl
  clear hA0 hval0
  refine (puts_full a0 c0 x0 a1 c1 x1 W (glob_of hL) w0 n0 m0 y0 z0 k0' w1 n1 m1 y1 z1 k1').mono fun e W' ⟨he, bel⟩ => ?_
  subst he
  exact ⟨_, rfl, _, _, _, [], _, [], hW', trodAll_mk1 (shut_bool Tryd.underlying4 _), (trodAll_cons_mk (Below.trod Tryd.laidOut (by kernel_rfl) (of_decide_eq_true (by kernel_rfl)) k0 bel lt0) (trodAll_cons_mk (Below.trod Tryd.laidOut (by kernel_rfl) (of_decide_eq_true (by kernel_rfl)) k1 bel lt1) trodAll_mk0)), rfl, bel.frame _, fun h => by cases h⟩

theorem journalPuts_holds : Rows.JournalPutsSaid :=
  OpenClaim.holds_of_wide 5 Tryd.f5 rfl rfl rfl rfl rfl rfl rfl ⟨rfl, rfl, rfl, rfl, rfl⟩ rfl rfl rfl rfl rfl (by kernel_rfl) Tryd.func5 (by kernel_rfl)
    (of_decide_eq_true (by kernel_rfl)) (by unfold Func.isWrapper; first | (rw [if_pos (by decide +kernel)]; kernel_rfl) | (rw [if_neg (by decide +kernel)]; exact ⟨rfl, rfl⟩))
    (fun os started H enc _ => journalPuts_lifted os started H enc)
set_option maxRecDepth 100000 in
theorem journalPutsCard_holds : Rows.JournalPutsCardSaid :=
  Claim7.holds_tied_plain_at .later [] [.data, .data] true (true, "1a62d10014719af0286edc1e591e48557e8193033c88d1af6fee85cb52dcb7be") false
    journalPuts_holds (fun _ h => by cases h) (by kernel_rfl) (fun _ h => by cases h) journalPuts_row_tie rfl ⟨rfl, rfl⟩ (by kernel_rfl) rfl
    (fun f fn hf hfn => by
      obtain rfl : f = 5 := Option.some.inj ((show Tryd.prog.funcNamed "sporran/sporranlaw16.JournalPuts" = some 5 by kernel_rfl).symm.trans hf) |>.symm
      obtain rfl : fn = Tryd.f5 := (Option.some.inj (Tryd.func5.symm.trans hfn)).symm
      exact ⟨by kernel_rfl, fun j t ht => by
        rw [Tryd.params5] at ht
        have hm : t ∈ [32, 32] := by simpa using Array.mem_of_getElem? ht
        have hall : ([32, 32].all fun u => !Tryd.prog.wantsStandIn u) = true := by kernel_rfl
        exact (show Tryd.prog.wantsStandIn t = false by simpa using List.all_eq_true.1 hall t hm)⟩)
    (by kernel_rfl)
end Go.Proofs.YtbjbjgfjaopibaaDoor
end
