import Derived.Test.YtbjbjgfjaopibaaGreatDoorLv23
import Derived.Test.YtbjbjgfjaopibaaGreatDoorLv13
import Derived.Test.YtbjbjgfjaopibaaGreatDoorLv15
section
/- The document's journal: pairs in memory; drop. -/
namespace Go.Proofs.YtbjbjgfjaopibaaGreatDoor
open Go Go.RowKit
set_option linter.unusedSimpArgs false
set_option linter.unusedVariables false
set_option maxRecDepth 100000

/-- a list of pairs, in blocks of which N holds -/
def KvAt (N : Nat → Prop) (w : World) (v : Value) (L : List PairD) : Prop :=
  ∃ (q : Option Addr) (c : Nat), v = .slice q L.length c ∧ L.length ≤ c ∧ c ≤ 9223372036854775807 ∧ ∀ i x, L[i]? = some x → ∃ b o, q = some ⟨b, o, none⟩ ∧ N b ∧ CellsAt w b (o + i * 2) (pairCs x) ∧ pairK.at' (fun b => N b ∧ b < w.heap.size) w x
section
variable {N N' : Nat → Prop} {w w' : World} {v : Value} {L : List PairD}
theorem KvAt.nil (N : Nat → Prop) (w : World) : KvAt N w (.slice none 0 0) [] := ⟨none, 0, rfl, Nat.le_refl _, by decide, fun i x h => by simp at h⟩
theorem KvAt.keep {Y : Nat → Prop} (h : KvAt N w v L) (hk : Keep Y w w') (hn : ∀ b, N b → ¬ Y b) : KvAt N w' v L := by
  obtain ⟨q, c, h1, h2, h3, h4⟩ := h
  refine ⟨q, c, h1, h2, h3, fun i x hi => ?_⟩
  obtain ⟨b, o, e1, e2, e3, e4⟩ := h4 i x hi
  refine ⟨b, o, e1, e2, fun j hj => ?_, pairK.mono (pairK.keep e4 hk (fun b hb => hn b hb.1)) (fun b hb => ⟨hb.1, Nat.lt_of_lt_of_le hb.2 hk.size⟩)⟩
  have := e3 j hj
  rw [List.getElem?_eq_getElem hj] at this ⊢
  exact (hk.cell (cell_lt this) (hn b e2)).trans this
theorem KvAt.mono (h : KvAt N w v L) (hm : ∀ b, N b → N' b) : KvAt N' w v L := by
  obtain ⟨q, c, h1, h2, h3, h4⟩ := h
  refine ⟨q, c, h1, h2, h3, fun i x hi => ?_⟩
  obtain ⟨b, o, e1, e2, e3, e4⟩ := h4 i x hi
  exact ⟨b, o, e1, hm _ e2, e3, pairK.mono e4 (fun b hb => ⟨hm b hb.1, hb.2⟩)⟩
theorem KvAt.more (h : KvAt N w v L) (hb : Below w.heap.size w w') : KvAt N w' v L := h.keep (Keep.of_below (X := fun _ => False) hb) (fun _ _ h => h)
theorem KvAt.of {G : Nat} {o : Option Nat} (h : LstO pairK 58 w G o v L) (ho : ∀ b, o = some b → N b) (hx : ∀ x ∈ L, pairK.at' (fun b => N b ∧ b < w.heap.size) w x) : KvAt N w v L := by
  obtain ⟨q, c, e, hl, hm, hcase⟩ := h.1.form
  refine ⟨q, c, e, hl, by unfold maxLen at hm; omega, fun i x hi => ?_⟩
  have hil : i < L.length := by
    rcases Nat.lt_or_ge i L.length with h | h
    · exact h
    · rw [List.getElem?_eq_none h] at hi; cases hi
  have hix : L[i] = x := by rw [List.getElem?_eq_getElem hil] at hi; exact Option.some.inj hi
  obtain ⟨g, cap, e1, e2, _, _, hg, hc, _⟩ := h.1.mem (by omega)
  rw [e] at e2; cases e2
  refine ⟨g, 0, rfl, ho g e1, fun j hj => ?_, hx x (by rw [← hix]; exact List.getElem_mem hil)⟩
  have hj' : j < pairK.k := hj
  show w.cell? ⟨g, 0 + i * pairK.k + j, none⟩ = (pairK.cs x)[j]?
  rw [Nat.zero_add, hc (i * pairK.k + j) (by show i * 2 + j < L.length * 2; have h2 : j < 2 := hj; omega), ← hix]
  exact flat_get pairK L i j hil hj'
theorem KvAt.get (h : KvAt N w v L) {i : Nat} {x : PairD} (hi : L[i]? = some x) : ∃ b o c, v = .slice (some ⟨b, o, none⟩) L.length c ∧ L.length ≤ c ∧ N b ∧ w.cell? ⟨b, o + i * 2, none⟩ = some (.string x.key) ∧ w.cell? ⟨b, o + i * 2 + 1, none⟩ = some x.val.cell ∧ pairK.at' (fun b => N b ∧ b < w.heap.size) w x := by
  obtain ⟨q, c, h1, h2, h3, h4⟩ := h
  obtain ⟨b, o, rfl, e2, e3, e4⟩ := h4 i x hi
  exact ⟨b, o, c, h1, h2, e2, e3 0 (by show 0 < 2; omega), e3 1 (by show 1 < 2; omega), e4⟩
theorem KvAt.form (h : KvAt N w v L) : ∃ q c, v = .slice q L.length c ∧ L.length ≤ c := by
  obtain ⟨q, c, h1, h2, _⟩ := h
  exact ⟨q, c, h1, h2⟩
theorem KvAt.at (h : KvAt N w v L) : ∀ x ∈ L, pairK.at' (fun b => N b ∧ b < w.heap.size) w x := fun x hx => by
  obtain ⟨i, hi⟩ := List.getElem?_of_mem hx
  obtain ⟨_, _, _, _, _, _, _, _, h⟩ := h.get hi
  exact h
end
/-- has this key -/
def hasK (k : ByteArray) (x : PairD) : Bool := x.key.toList == k.toList
theorem hasK_iff {k : ByteArray} {x : PairD} : hasK k x = true ↔ bsK x.key = bsK k := by
  unfold hasK
  rw [beq_iff_eq, ByteArray.toList_eq, ByteArray.toList_eq]
  exact Iff.rfl
/-- without a key -/
def outK (k : ByteArray) (L : List PairD) : List PairD := L.filter fun x => !hasK k x
theorem outK_map (k : ByteArray) (L : List PairD) : (outK k L).map pairX = delK (L.map pairX) (bsK k) := by
  unfold outK delK
  rw [List.filter_map]
  congr 1
  refine List.filter_congr fun x _ => ?_
  show (!hasK k x) = (bsK x.key != bsK k)
  by_cases h : bsK x.key = bsK k
  · rw [hasK_iff.2 h]; simp [h]
  · have : hasK k x = false := by
      cases hh : hasK k x
      · rfl
      · exact absurd (hasK_iff.1 hh) h
    rw [this]; simp [h]
theorem outK_snoc (k : ByteArray) (L : List PairD) (x : PairD) : outK k (L ++ [x]) = if hasK k x then outK k L else outK k L ++ [x] := by
  unfold outK
  rw [List.filter_append]
  cases h : hasK k x <;> simp [h]
theorem outK_len (k : ByteArray) (L : List PairD) : (outK k L).length ≤ L.length := List.length_filter_le _ _
theorem outK_mem {k : ByteArray} {L : List PairD} {x : PairD} (h : x ∈ outK k L) : x ∈ L := (List.mem_filter.1 h).1
set_option maxHeartbeats 6400000 in
theorem rdrop (x : Nat) (T v nv hv : Value) (L : List PairD) (N : Nat → Prop) (key : ByteArray) (w : World) (hB : Blk w x #[T, v, nv, hv] 71) (hL : KvAt N w v L) (hlen : L.length ≤ 100000000) (hN : ∀ b, N b → b ≠ x) :
    Calls Tryz.prog 63 #[.pointer (some ⟨x, 0, none⟩), .string key] w fun e w' => e = .returned (.tuple #[]) ∧ ∃ v', Keep (fun k => k = x) w w' ∧ Blk w' x #[T, v', nv, hv] 71 ∧ KvAt (fun b => N b ∨ w.heap.size ≤ b) w' v' (outK key L) := by
  obtain ⟨q, c, rfl, hlc⟩ := hL.form
  have c1 := hB.cell 1
  obtain ⟨n, hn⟩ : ∃ n, n = L.length := ⟨_, rfl⟩
  rw [← hn] at hlc c1 hlen
  have HL := Lib.hid (And.intro hL (And.intro hB (And.intro hn hN)))
  clear hL hB hn hN
  go_enter Tryz.func63, Tryz.ntmps63
  go_wp2
  go_loopg [4, 12] n (fun gh vo i wx => ∃ (k : Nat) (X : List PairD) (o : Option Nat), i = .int .i64 (k : Int) ∧ gh = n - k ∧ k ≤ n ∧ Hid (LstO pairK 58 wx 0 o vo X ∧ X = outK key (L.take k) ∧ (∀ b, o = some b → w.heap.size ≤ b) ∧ Below w.heap.size w wx))
  case atStart => exact ⟨0, [], none, rfl, rfl, Nat.zero_le _, LstO.nil _ _ _ _, rfl, (fun b e => by cases e), Below.refl _ _⟩
  case round =>
    obtain ⟨k, X, o, rfl, hg, hkn, HK⟩ := hrel
    have HG := Lib.hid hg
    clear hg
    obtain ⟨qo, no, rfl, _⟩ := HK.out.1.1.form
    have hXl : X.length ≤ k := by rw [HK.out.2.1]; exact Nat.le_trans (outK_len _ _) (List.length_take_le _ _)
    by_cases hlt : k < n
    · obtain ⟨⟨pk, ⟨pa, pc, pz⟩⟩, hxE⟩ : ∃ y : PairD, L[k]? = some y := ⟨L[k]'(by rw [← HL.out.2.2.1]; exact hlt), List.getElem?_eq_getElem _⟩
      have kw : Keep (fun _ => False) w wr := Keep.of_below HK.out.2.2.2
      obtain ⟨bb, off, cc, hv0, _, hNb, t0, t1, hat⟩ := (HL.out.1.keep kw (fun _ _ h => h)).get hxE
      rw [← HL.out.2.2.1] at hv0
      cases hv0
      change wr.cell? ⟨bb, off + k * 2, none⟩ = some (.string pk) at t0
      change wr.cell? ⟨bb, off + k * 2 + 1, none⟩ = some (.slice pa pz.length pc) at t1
      have bx := Blk.new wr #[.string pk, .slice pa pz.length pc] 58
      have kx := (Below.refl wr.heap.size wr).alloc (Nat.le_refl _) (.cells #[.string pk, .slice pa pz.length pc] 58)
      have hTk : L.take (k + 1) = L.take k ++ [⟨pk, ⟨pa, pc, pz⟩⟩] := by rw [List.take_add_one, hxE]; rfl
      have hg : w.heap.size ≤ wr.heap.size := HK.out.2.2.2.size
      have L4 := HK.out.1.more kx
      have hB4 := HK.out.2.2.2.trans (kx.mono hg)
      obtain ⟨_, _, _, _, _, _, _, _, hat0⟩ := HL.out.1.get hxE
      have hat4 := pairK.mono (pairK.keep hat0 (Keep.of_below (X := fun _ => False) hB4) (fun _ _ h => h)) (P' := fun b => 0 ≤ b ∧ b < (wr.alloc (.cells #[.string pk, .slice pa pz.length pc] 58)).heap.size ∧ o ≠ some b) (fun b hb => ⟨Nat.zero_le _, by have := hB4.size; omega, fun e => by have := HK.out.2.2.1 _ e; omega⟩)
      have cx0 := bx.cell 0
      have cx1 := bx.cell 1
      have hxs := HK.out.2.1
      have ho := HK.out.2.2.1
      have hg4 : wr.heap.size ≤ (wr.alloc (.cells #[.string pk, .slice pa pz.length pc] 58)).heap.size := kx.size
      have H4 := Lib.hid (And.intro L4 (And.intro hB4 (And.intro hat4 (And.intro hTk (And.intro hxs (And.intro ho (And.intro hg hg4)))))))
      clear L4 hB4 hat4 hat0 hTk hxs ho bx kx hg hNb hat hg4 hxE kw
      obtain ⟨zl, hzl⟩ : ∃ zl, zl = pz.length := ⟨_, rfl⟩
      rw [← hzl] at t1 cx0 cx1
      obtain ⟨w4, hw4⟩ : ∃ w4, w4 = wr.alloc (.cells #[.string pk, .slice pa pz.length pc] 58) := ⟨_, rfl⟩
      rw [← hw4] at H4
      rw [← hzl] at hw4
      rw [← hw4] at cx0 cx1
      have HZL := Lib.hid hzl
      clear hzl
      go_upto_region 4 with fail
      rw [← hw4]
      clear hw4
      by_cases hk : pk = key
      · subst hk
        have X8 : X = outK pk (L.take (k + 1)) := by rw [H4.out.2.2.2.1, outK_snoc, if_pos (show hasK pk ⟨pk, ⟨pa, pc, pz⟩⟩ = true from hasK_iff.2 rfl)]; exact H4.out.2.2.2.2.1
        have H8 := Lib.hid (And.intro H4.out.1 (And.intro X8 (And.intro H4.out.2.2.2.2.2.1 H4.out.2.1)))
        clear X8
        go_wp2
        go_roundg (n - (k + 1))
        case measure => rw [HG.out]; omega
        case rel => exact ⟨k + 1, X, o, by go_num, rfl, hlt, H8.out⟩
      · have hkb : (pk.toList == key.toList) = false := beq_eq_false_iff_ne.2 fun e => hk (by rw [ByteArray.toList_eq, ByteArray.toList_eq] at e; exact congrArg sK e)
        have X8 : X ++ [⟨pk, ⟨pa, pc, pz⟩⟩] = outK key (L.take (k + 1)) := by rw [H4.out.2.2.2.1, outK_snoc, if_neg (by unfold hasK; show ¬ (pk.toList == key.toList) = true; rw [hkb]; decide), ← H4.out.2.2.2.2.1]
        obtain ⟨i1, z1, f1, f2, f3, f4, f5⟩ := info_ofJ pairInf
        obtain ⟨q8, n8, v7, w7, o7, hv8, run7, L7, k7, ho7⟩ := H4.out.1.add 38 Tryz.underlying38 f1 f2 f3 f4 f5 (by decide) (Nat.zero_le _) H4.out.2.2.1 (by unfold maxLen; omega) (by omega)
        cases hv8
        change (Builtin.append_ #[38, 38] 38 #[.slice qo X.length no, .slice (some ⟨w4.heap.size, 0, none⟩) 1 1]).run Tryz.prog (w4.alloc (.cells #[.string pk, .slice pa pz.length pc] 58)) = .ok v7 w7 at run7
        obtain ⟨q7, n7, rfl, _⟩ := L7.1.form
        obtain ⟨l7, hl7⟩ : ∃ l7, l7 = (X ++ [(⟨pk, ⟨pa, pc, pz⟩⟩ : PairD)]).length := ⟨_, rfl⟩
        rw [← hl7] at run7 L7
        have hB7 : Below w.heap.size w w7 := H4.out.2.1.trans (k7.below (by have := H4.out.2.1.size; omega) (fun b e => H4.out.2.2.2.2.2.1 b e))
        have O7 : ∀ b, o7 = some b → w.heap.size ≤ b := fun b e => by
          rcases ho7 with h | ⟨g9, h, hg9⟩
          · exact H4.out.2.2.2.2.2.1 b (h ▸ e)
          · rw [h] at e; cases e; exact Nat.le_trans H4.out.2.1.size hg9
        have H8 := Lib.hid (And.intro L7 (And.intro X8 (And.intro O7 hB7)))
        clear X8 L7 k7 ho7 f1 f2 f3 f4 f5 hB7 O7 hl7
        obtain ⟨xl, hxl⟩ : ∃ xl, xl = X.length := ⟨_, rfl⟩
        rw [← hxl, ← HZL.out] at run7
        rw [← hxl] at hXl ⊢
        clear hxl
        go_wp2_with (at_builtin; refine wpl_append rfl _ _ 38 rfl rfl rfl run7 ?_)
        go_roundg (n - (k + 1))
        case measure => rw [HG.out]; omega
        case rel => exact ⟨k + 1, _, o7, by go_num, rfl, hlt, H8⟩
    · obtain rfl : k = n := by omega
      have hXa : X = outK key L := by rw [HK.out.2.1, HL.out.2.2.1, List.take_length]
      have k2 : Keep (fun b => b = x) wr (wr.setCell ⟨x, 1, none⟩ (.slice qo X.length no)) := Keep.set (X := fun b => b = x) (Keep.refl _ wr) (p := ⟨x, 1, none⟩) (.inl rfl) _
      have bw := (Keep.of_below (X := fun _ => False) HK.out.2.2.2).blk HL.out.2.1 (fun h => h)
      have bz := bw.set 1 (.slice qo X.length no)
      have c1w := bw.cell 1
      have f1w := bw.free 1
      have hK1 : Keep (fun b => b = x) w (wr.setCell ⟨x, 1, none⟩ (.slice qo X.length no)) := (Keep.of_below HK.out.2.2.2).trans k2
      have hxw : x < w.heap.size := HL.out.2.1.lt
      have hKV0 : KvAt (fun b => N b ∨ w.heap.size ≤ b) wr (.slice qo X.length no) X := KvAt.of HK.out.1 (fun b e => .inr (HK.out.2.2.1 b e)) (fun y hy => by
        rw [hXa] at hy
        exact pairK.mono (pairK.keep (HL.out.1.at y (outK_mem hy)) (Keep.of_below (X := fun _ => False) HK.out.2.2.2) (fun _ _ h => h)) (fun b hb => ⟨.inl hb.1, Nat.lt_of_lt_of_le hb.2 HK.out.2.2.2.size⟩))
      have hKV := hKV0.keep k2 (fun b hb e => hb.elim (fun h => HL.out.2.2.2 b h e) (fun h => by have e' : b = x := e; omega))
      have HF := Lib.hid (And.intro hK1 (And.intro bz (hXa ▸ hKV : KvAt (fun b => N b ∨ w.heap.size ≤ b) (wr.setCell ⟨x, 1, none⟩ (.slice qo X.length no)) (.slice qo X.length no) (outK key L))))
      clear k2 bz hK1 hKV hKV0 bw hxw hXa
      obtain ⟨xl, hxl⟩ : ∃ xl, xl = X.length := ⟨_, rfl⟩
      rw [← hxl] at HF hXl ⊢
      clear hxl
      go_wp2
      go_end0
      exact ⟨rfl, _, HF.out.1, HF.out.2.1, HF.out.2.2⟩
end Go.Proofs.YtbjbjgfjaopibaaGreatDoor
end

section
/- The document's journal: what a batch comes to, plainly, over pairs in memory. -/
namespace Go.Proofs.YtbjbjgfjaopibaaGreatDoor
open Go Go.RowKit
set_option linter.unusedSimpArgs false
set_option linter.unusedVariables false
set_option maxRecDepth 100000

/-- p's key is before x's -/
def gtK (p x : PairD) : Bool := !Op.bytesLess x.key.toList p.key.toList && !(x.key.toList == p.key.toList)
theorem gtK_iff {p x : PairD} : gtK p x = true ↔ bsK p.key < bsK x.key := by
  unfold gtK
  rw [Go.Proofs.bytesLess_eq, ByteArray.toList_eq, ByteArray.toList_eq]
  show (!decide (bsK x.key < bsK p.key) && !(bsK x.key == bsK p.key)) = true ↔ _
  rw [Bool.and_eq_true, Bool.not_eq_true', Bool.not_eq_true', decide_eq_false_iff_not, beq_eq_false_iff_ne]
  constructor
  · intro h; exact klt_tri h.1 h.2
  · intro h; exact ⟨fun h2 => klt_irrefl _ (klt_trans h h2), fun e => klt_irrefl _ (e ▸ h)⟩
/-- put in ahead of the first key that is greater -/
def insR (p : PairD) : List PairD → List PairD
  | [] => [p]
  | x :: t => if gtK p x = true then p :: x :: t else x :: insR p t
def anyGt (p : PairD) (L : List PairD) : Bool := L.any (gtK p)
/-- as far as the loop is -/
def insG (p : PairD) (L : List PairD) : List PairD := if anyGt p L = true then insR p L else L
theorem anyGt_snoc (p x : PairD) (L : List PairD) : anyGt p (L ++ [x]) = (anyGt p L || gtK p x) := by unfold anyGt; simp
theorem insR_any {p : PairD} : ∀ {L : List PairD} (x : PairD), anyGt p L = true → insR p (L ++ [x]) = insR p L ++ [x]
  | [], x, h => by cases h
  | y :: t, x, h => by
    show (if gtK p y = true then _ else _) = (if gtK p y = true then p :: y :: t else y :: insR p t) ++ [x]
    by_cases hy : gtK p y = true
    · rw [if_pos hy, if_pos hy]; rfl
    · have h' : anyGt p t = true := by
        unfold anyGt at h ⊢
        rw [List.any_cons] at h
        simpa [hy] using h
      rw [if_neg hy, if_neg hy, List.cons_append]
      exact congrArg (y :: ·) (insR_any x h')
theorem insR_none {p : PairD} : ∀ {L : List PairD}, anyGt p L = false → insR p L = L ++ [p]
  | [], h => rfl
  | y :: t, h => by
    unfold anyGt at h
    rw [List.any_cons, Bool.or_eq_false_iff] at h
    show (if gtK p y = true then _ else _) = _
    rw [if_neg (by rw [h.1]; decide), insR_none h.2]; rfl
theorem insR_last {p : PairD} : ∀ {L : List PairD} (x : PairD), anyGt p L = false → gtK p x = true → insR p (L ++ [x]) = L ++ [p] ++ [x]
  | [], x, _, hx => by show (if gtK p x = true then _ else _) = _; rw [if_pos hx]; rfl
  | y :: t, x, h, hx => by
    unfold anyGt at h
    rw [List.any_cons, Bool.or_eq_false_iff] at h
    show (if gtK p y = true then _ else _) = _
    rw [if_neg (by rw [h.1]; decide)]
    exact congrArg (y :: ·) (insR_last x h.2 hx)
theorem insG_done {p x : PairD} {L : List PairD} (h : anyGt p L = true) : insG p (L ++ [x]) = insG p L ++ [x] ∧ anyGt p (L ++ [x]) = true := by
  have e : anyGt p (L ++ [x]) = true := by rw [anyGt_snoc, h]; rfl
  refine ⟨?_, e⟩
  unfold insG
  rw [if_pos e, if_pos h, insR_any x h]
theorem insG_now {p x : PairD} {L : List PairD} (h : anyGt p L = false) (hx : gtK p x = true) : insG p (L ++ [x]) = insG p L ++ [p] ++ [x] ∧ anyGt p (L ++ [x]) = true := by
  have e : anyGt p (L ++ [x]) = true := by rw [anyGt_snoc, hx, Bool.or_true]
  refine ⟨?_, e⟩
  unfold insG
  rw [if_pos e, if_neg (by rw [h]; decide), insR_last x h hx]
theorem insG_not {p x : PairD} {L : List PairD} (h : anyGt p L = false) (hx : gtK p x = false) : insG p (L ++ [x]) = insG p L ++ [x] ∧ anyGt p (L ++ [x]) = false := by
  have e : anyGt p (L ++ [x]) = false := by rw [anyGt_snoc, h, hx]; rfl
  refine ⟨?_, e⟩
  unfold insG
  rw [if_neg (by rw [e]; decide), if_neg (by rw [h]; decide)]
theorem insG_end {p : PairD} {L : List PairD} : (anyGt p L = true → insG p L = insR p L) ∧ (anyGt p L = false → insG p L ++ [p] = insR p L) := by
  constructor
  · intro h; unfold insG; rw [if_pos h]
  · intro h; unfold insG; rw [if_neg (by rw [h]; decide), insR_none h]
theorem insR_mem {p y : PairD} : ∀ {L : List PairD}, y ∈ insR p L → y = p ∨ y ∈ L
  | [], h => .inl (List.mem_singleton.1 h)
  | x :: t, h => by
    change y ∈ (if gtK p x = true then p :: x :: t else x :: insR p t) at h
    by_cases hx : gtK p x = true
    · rw [if_pos hx] at h
      exact List.mem_cons.1 h
    · rw [if_neg hx] at h
      rcases List.mem_cons.1 h with h | h
      · exact .inr (by rw [h]; simp)
      · exact (insR_mem h).imp id (List.mem_cons_of_mem _)
theorem insG_mem {p y : PairD} {L : List PairD} (h : y ∈ insG p L) : y = p ∨ y ∈ L := by
  unfold insG at h
  by_cases hx : anyGt p L = true
  · rw [if_pos hx] at h; exact insR_mem h
  · rw [if_neg hx] at h; exact .inr h
theorem insR_len (p : PairD) : ∀ L : List PairD, (insR p L).length = L.length + 1
  | [] => rfl
  | x :: t => by
    show (if gtK p x = true then p :: x :: t else x :: insR p t).length = _
    split
    · rfl
    · rw [List.length_cons, insR_len p t]; rfl
theorem insG_len (p : PairD) (L : List PairD) : (insG p L).length ≤ L.length + 1 := by
  unfold insG; split
  · rw [insR_len]; exact Nat.le_refl _
  · exact Nat.le_succ _
theorem insR_map (p : PairD) : ∀ L : List PairD, (insR p L).map pairX = insK (L.map pairX) (bsK p.key) p.val.z
  | [] => rfl
  | x :: t => by
    show (if gtK p x = true then p :: x :: t else x :: insR p t).map pairX = (if bsK p.key < bsK x.key then _ else _)
    by_cases h : gtK p x = true
    · rw [if_pos h, if_pos (gtK_iff.1 h)]; rfl
    · rw [if_neg h, if_neg (fun f => h (gtK_iff.2 f)), List.map_cons, insR_map p t]
/-- a put -/
def stepR (L : List PairD) (p : PairD) : List PairD := insR p (outK p.key L)
theorem stepR_map (L : List PairD) (p : PairD) : (stepR L p).map pairX = putK (L.map pairX) (bsK p.key) p.val.z := by
  unfold stepR putK; rw [insR_map, outK_map]
def putsR (L X : List PairD) : List PairD := X.foldl stepR L
def delsR (L : List PairD) (Y : List ByteArray) : List PairD := Y.foldl (fun l k => outK k l) L
theorem putsR_snoc (L X : List PairD) (p : PairD) : putsR L (X ++ [p]) = insR p (outK p.key (putsR L X)) := by unfold putsR; rw [List.foldl_append]; rfl
theorem delsR_snoc (L : List PairD) (Y : List ByteArray) (k : ByteArray) : delsR L (Y ++ [k]) = outK k (delsR L Y) := by unfold delsR; rw [List.foldl_append]; rfl
theorem putsR_len (X : List PairD) : ∀ L : List PairD, (putsR L X).length ≤ L.length + X.length := by
  induction X with
  | nil => exact fun L => Nat.le_refl _
  | cons p t ih =>
    intro L
    have h := ih (stepR L p)
    have h2 : (stepR L p).length ≤ L.length + 1 := by unfold stepR; rw [insR_len]; have := outK_len p.key L; omega
    show (putsR (stepR L p) t).length ≤ _
    rw [List.length_cons]; omega
theorem delsR_len (Y : List ByteArray) : ∀ L : List PairD, (delsR L Y).length ≤ L.length := by
  induction Y with
  | nil => exact fun L => Nat.le_refl _
  | cons p t ih => exact fun L => Nat.le_trans (ih (outK p L)) (outK_len p L)
theorem putsR_map (X : List PairD) : ∀ L : List PairD, (putsR L X).map pairX = (X.map pairX).foldl (fun l p => putK l p.1 p.2) (L.map pairX) := by
  induction X with
  | nil => exact fun L => rfl
  | cons p t ih =>
    intro L
    show (putsR (stepR L p) t).map pairX = _
    rw [ih, stepR_map]; rfl
theorem delsR_map (Y : List ByteArray) : ∀ L : List PairD, (delsR L Y).map pairX = (Y.map bsK).foldl delK (L.map pairX) := by
  induction Y with
  | nil => exact fun L => rfl
  | cons p t ih =>
    intro L
    show (delsR (outK p L) t).map pairX = _
    rw [ih, outK_map]; rfl
theorem doR_map (L X : List PairD) (Y : List ByteArray) : (delsR (putsR L X) Y).map pairX = doK (L.map pairX) ⟨X.map pairX, Y.map bsK⟩ := by
  rw [delsR_map, putsR_map]; rfl
/-- pairs of a list that grew by append -/
theorem KvAt.lst {w : World} {G : Nat} {v : Value} {L : List PairD} (h : LstAt pairK 58 w G v L) : KvAt (fun b => G ≤ b) w v L := by
  obtain ⟨o, h⟩ := h
  exact KvAt.of h h.2.1 (fun x hx => pairK.mono (h.2.2 x hx) (fun b hb => ⟨hb.1, hb.2.1⟩))
/-- strings in memory -/
def SvAt (N : Nat → Prop) (w : World) (v : Value) (L : List ByteArray) : Prop :=
  ∃ (q : Option Addr) (c : Nat), v = .slice q L.length c ∧ L.length ≤ c ∧ ∀ i x, L[i]? = some x → ∃ b o, q = some ⟨b, o, none⟩ ∧ N b ∧ w.cell? ⟨b, o + i, none⟩ = some (.string x)
section
variable {N N' : Nat → Prop} {w w' : World} {v : Value} {L : List ByteArray}
theorem SvAt.keep {Y : Nat → Prop} (h : SvAt N w v L) (hk : Keep Y w w') (hn : ∀ b, N b → ¬ Y b) : SvAt N w' v L := by
  obtain ⟨q, c, h1, h2, h4⟩ := h
  refine ⟨q, c, h1, h2, fun i x hi => ?_⟩
  obtain ⟨b, o, e1, e2, e3⟩ := h4 i x hi
  exact ⟨b, o, e1, e2, (hk.cell (cell_lt e3) (hn b e2)).trans e3⟩
theorem SvAt.lst {G : Nat} (h : LstAt strK 9 w G v L) : SvAt (fun b => G ≤ b) w v L := by
  obtain ⟨o, h⟩ := h
  obtain ⟨q, c, e, hl, hm, hcase⟩ := h.1.form
  refine ⟨q, c, e, hl, fun i x hi => ?_⟩
  have hil : i < L.length := by
    rcases Nat.lt_or_ge i L.length with h | h
    · exact h
    · rw [List.getElem?_eq_none h] at hi; cases hi
  have hix : L[i] = x := by rw [List.getElem?_eq_getElem hil] at hi; exact Option.some.inj hi
  obtain ⟨g, cap, e1, e2, _, _, hg, hc, _⟩ := h.1.mem (by omega)
  rw [e] at e2; cases e2
  refine ⟨g, 0, rfl, h.2.1 g e1, ?_⟩
  rw [Nat.zero_add]
  have hc' := hc (i * strK.k + 0) (by show i * 1 + 0 < L.length * 1; omega)
  rw [flat_get strK L i 0 hil (by show 0 < 1; omega)] at hc'
  rw [show i = i * strK.k + 0 from by show i = i * 1 + 0; omega, hc', hix]
  rfl
theorem SvAt.get (h : SvAt N w v L) {i : Nat} {x : ByteArray} (hi : L[i]? = some x) : ∃ b o c, v = .slice (some ⟨b, o, none⟩) L.length c ∧ L.length ≤ c ∧ N b ∧ w.cell? ⟨b, o + i, none⟩ = some (.string x) := by
  obtain ⟨q, c, h1, h2, h4⟩ := h
  obtain ⟨b, o, rfl, e2, e3⟩ := h4 i x hi
  exact ⟨b, o, c, h1, h2, e2, e3⟩
end
end Go.Proofs.YtbjbjgfjaopibaaGreatDoor
end

section
/- slices.DeleteFunc over strings where something goes; journal.Keys of any prefix. -/
namespace Go.Proofs.YtbjbjgfjaopibaaGreatDoor
open Go Go.RowKit Go.Maps
set_option linter.unusedSimpArgs false
set_option linter.unusedVariables false
set_option maxRecDepth 100000

section
variable {α : Type}
/-- what stands in the list while DeleteFunc walks: i kept, j looked at -/
structure DInv (P : α → Bool) (ss M : List α) (i j : Nat) : Prop where
  len : M.length = ss.length
  lt : i < j
  le : j ≤ ss.length
  head : M.take i = (ss.take j).filter (fun s => !P s)
  tail : M.drop j = ss.drop j
theorem DInv.idx {P : α → Bool} {ss M : List α} {i j : Nat} (h : DInv P ss M i j) : i = ((ss.take j).filter (fun s => !P s)).length := by
  rw [← h.head, List.length_take, h.len]
  have := h.lt; have := h.le
  omega
theorem DInv.start {P : α → Bool} {ss : List α} {a : Nat} (h : ss.findIdx? P = some a) : DInv P ss ss a (a + 1) := by
  obtain ⟨hl, h1, h2⟩ := List.findIdx?_eq_some_iff_getElem.1 h
  refine ⟨rfl, Nat.lt_succ_self _, hl, ?_, rfl⟩
  rw [← List.take_append_getElem hl, List.filter_append]
  have e1 : (ss.take a).filter (fun s => !P s) = ss.take a := List.filter_eq_self.2 fun x hx => by
    obtain ⟨i, hi, rfl⟩ := List.getElem_of_mem hx
    rw [List.length_take] at hi
    rw [List.getElem_take]
    simpa using h2 i (by omega)
  have e2 : [ss[a]].filter (fun s => !P s) = [] := by simp [h1]
  rw [e1, e2, List.append_nil]
theorem DInv.get {P : α → Bool} {ss M : List α} {i j : Nat} (h : DInv P ss M i j) (hj : j < ss.length) : M[j]? = some ss[j] := by
  have h1 : (M.drop j)[0]? = (ss.drop j)[0]? := by rw [h.tail]
  rw [List.getElem?_drop, List.getElem?_drop, Nat.add_zero, List.getElem?_eq_getElem hj] at h1
  exact h1
theorem drop_succ_of {P : α → Bool} {ss M : List α} {i j : Nat} (h : DInv P ss M i j) : M.drop (j + 1) = ss.drop (j + 1) := by
  rw [← List.drop_drop (i := 1) (j := j), ← List.drop_drop (i := 1) (j := j), h.tail]
theorem DInv.skip {P : α → Bool} {ss M : List α} {i j : Nat} (h : DInv P ss M i j) (hj : j < ss.length) (hp : P ss[j] = true) : DInv P ss M i (j + 1) := by
  refine ⟨h.len, Nat.lt_succ_of_lt h.lt, hj, ?_, drop_succ_of h⟩
  rw [h.head, ← List.take_append_getElem hj, List.filter_append]
  simp [hp]
theorem DInv.put {P : α → Bool} {ss M : List α} {i j : Nat} (h : DInv P ss M i j) (hj : j < ss.length) (hp : P ss[j] = false) : DInv P ss (M.set i ss[j]) (i + 1) (j + 1) := by
  have hi : i < M.length := by have := h.lt; rw [h.len]; omega
  refine ⟨by rw [List.length_set, h.len], Nat.succ_lt_succ h.lt, hj, ?_, ?_⟩
  · rw [← List.take_append_getElem hj, List.filter_append, ← h.head, ← List.take_append_getElem (l := M.set i ss[j]) (by rw [List.length_set]; exact hi), List.getElem_set_self, List.take_set_of_le (Nat.le_refl _)]
    simp [hp]
  · rw [List.drop_set_of_lt (by have := h.lt; omega)]
    exact drop_succ_of h
theorem DInv.fin {P : α → Bool} {ss M : List α} {i : Nat} (h : DInv P ss M i ss.length) : M.take i = ss.filter (fun s => !P s) ∧ i = (ss.filter (fun s => !P s)).length := by
  have h1 := h.head
  have h2 := h.idx
  rw [List.take_length] at h1 h2
  exact ⟨h1, h2⟩
end
section
variable {w : World} {e : TypeId} {k : Nat} {n cap g : Nat} {cs : List Value}
/-- several cells written -/
theorem RowV.sets : ∀ (us : List Value) (i : Nat) {w : World} {cs : List Value}, RowV w e k (.slice (some ⟨g, 0, none⟩) n cap) n cs (some g) → i + us.length ≤ n * k →
    ∃ cs', RowV (w.setCells g i us) e k (.slice (some ⟨g, 0, none⟩) n cap) n cs' (some g) ∧ cs'.take i = cs.take i ∧ Keep (fun q => q = g) w (w.setCells g i us)
  | [], i, w, cs, h, _ => ⟨cs, h, rfl, Keep.refl _ _⟩
  | u :: us, i, w, cs, h, hl => by
    rw [List.length_cons] at hl
    obtain ⟨cs', h1, h2, h3⟩ := RowV.sets us (i + 1) (h.set i u (by omega)) (by omega)
    have hi : i < cs.length := by have := h.1; omega
    refine ⟨cs', h1, ?_, ((Keep.refl _ w).set (X := fun q => q = g) (p := ⟨g, i, none⟩) (.inl rfl) u).trans h3⟩
    have e1 : cs'.take i = (cs'.take (i + 1)).take i := by rw [List.take_take, Nat.min_eq_left (Nat.le_succ _)]
    rw [e1, h2, List.take_take, Nat.min_eq_left (Nat.le_succ _), List.take_set_of_le (Nat.le_refl _)]
/-- fewer elements -/
theorem RowV.fewer (h : RowV w e k (.slice (some ⟨g, 0, none⟩) n cap) n cs (some g)) {m : Nat} (hm : m ≤ n) : RowV w e k (.slice (some ⟨g, 0, none⟩) m cap) m (cs.take (m * k)) (some g) := by
  have hmk : m * k ≤ n * k := Nat.mul_le_mul_right _ hm
  obtain ⟨hl, ⟨h1, _⟩ | ⟨g', cap', cur, h0, h1, h2, h3, h4, h5, h6⟩⟩ := h
  · cases h1
  · cases h0; cases h1
    refine ⟨by rw [List.length_take]; omega, .inr ⟨g, cap, cur, rfl, rfl, h2, by omega, h4, h5, ?_⟩⟩
    rw [← h6, List.take_take, Nat.min_eq_left hmk]
end
theorem zeroStr (w : World) : (zeroValue 9).run Tryz.prog w = .ok (.string ⟨#[]⟩) w := by kernel_rfl
set_option maxHeartbeats 6400000 in
theorem pdelete (ss : List ByteArray) (gB cap g : Nat) (P : ByteArray → Bool) (w : World) (h : RowV w 9 1 (.slice (some ⟨gB, 0, none⟩) ss.length cap) ss.length (ss.map .string) (some gB)) (hl : ss.length ≤ 1000000000000)
    (hf : ∀ wx, Keep (fun q => q = gB) w wx → ∀ k, Calls Tryz.prog 56 #[.string k, .pointer (some ⟨g, 0, none⟩)] wx fun e w' => e = .returned (.bool (P k)) ∧ w' = wx) (a : Nat) (ha : ss.findIdx? P = some a) :
    Calls Tryz.prog 55 #[.slice (some ⟨gB, 0, none⟩) ss.length cap, .func (.func 56) #[] #[.pointer (some ⟨g, 0, none⟩)]] w fun e w' =>
      e = .returned (.slice (some ⟨gB, 0, none⟩) (ss.filter (fun s => !P s)).length cap) ∧ RowV w' 9 1 (.slice (some ⟨gB, 0, none⟩) (ss.filter (fun s => !P s)).length cap) (ss.filter (fun s => !P s)).length ((ss.filter (fun s => !P s)).map .string) (some gB) ∧ Keep (fun q => q = gB) w w' := by
  have hst : StrsAt w (some ⟨gB, 0, none⟩) ss := fun i hi => by
    obtain ⟨g', cap', _, e1, _, _, _, hc, _⟩ := h.mem (by omega)
    cases e1
    exact ⟨gB, 0, rfl, by rw [Nat.zero_add, hc i (by omega), List.getElem?_map, List.getElem?_eq_getElem hi]; rfl⟩
  have PI := pindexf ss (some ⟨gB, 0, none⟩) cap g P w hst (by omega) (hf w (Keep.refl _ _))
  rw [show firstI P ss = (a : Int) from by unfold firstI; rw [ha]] at PI
  have PI := Lib.hid PI
  have han : a < ss.length := (List.findIdx?_eq_some_iff_getElem.1 ha).1
  have HH := Lib.hid (And.intro h (And.intro hf ha))
  clear h hf hst ha
  obtain ⟨n, hn⟩ : ∃ n, n = ss.length := ⟨_, rfl⟩
  rw [← hn] at hl PI han HH ⊢
  have HN := Lib.hid hn
  clear hn
  have hneg : ((a : Int) == -1) = false := beq_false_of_ne (by omega)
  go_enter Tryz.func55, Tryz.ntmps55
  go_wp2_with fail
  refine PI.out.mono ?_
  rintro e w1 ⟨rfl, rfl⟩
  go_wp2
  go_loopg [5, 6] (n - (a + 1)) (fun gh vi vj wx => ∃ (i j : Nat) (M : List ByteArray), j ≤ n ∧ i < j ∧ vi = .int .i64 (i : Int) ∧ vj = .int .i64 (j : Int) ∧ gh = n - j ∧ Hid (DInv P ss M i j ∧ RowV wx 9 1 (.slice (some ⟨gB, 0, none⟩) n cap) n (M.map .string) (some gB) ∧ Keep (fun q => q = gB) w1 wx))
  case atStart => exact ⟨a, a + 1, ss, han, Nat.lt_succ_self _, rfl, by go_num, rfl, DInv.start HH.out.2.2, HH.out.1, Keep.refl _ _⟩
  case round =>
    obtain ⟨i, j, M, hj, hij, rfl, rfl, hg, HM⟩ := hrel
    have HG := Lib.hid hg
    clear hg
    obtain ⟨g', cap', e1, e2, hcap, hcm, hgl, hcell, hfree⟩ := HM.out.2.1.mem (by omega)
    cases e1; cases e2
    have hml : M.length = n := HM.out.1.len.trans HN.out.symm
    by_cases hlt : j < n
    · have hjs : j < ss.length := by rw [← HN.out]; exact hlt
      have cj : wr.cell? ⟨gB, j, none⟩ = some (.string ss[j]) := by
        rw [hcell j (by omega), List.getElem?_map, HM.out.1.get hjs]; rfl
      have ci : ∃ u, wr.cell? ⟨gB, i, none⟩ = some u := ⟨_, by rw [hcell i (by omega), List.getElem?_map, List.getElem?_eq_getElem (by omega)]; rfl⟩
      obtain ⟨u, ci⟩ := ci
      have fi := hfree i
      have PC := Lib.hid (HH.out.2.1 wr HM.out.2.2 ss[j])
      obtain ⟨s, hs⟩ : ∃ s, s = ss[j] := ⟨_, rfl⟩
      obtain ⟨pb, hpb⟩ : ∃ pb, pb = P s := ⟨_, rfl⟩
      rw [← hs] at cj PC
      rw [← hpb] at PC
      have HS := Lib.hid (And.intro hs hpb)
      clear hs hpb hcell hfree hml
      go_wp2_with fail
      refine PC.out.mono ?_
      rintro e w2 ⟨rfl, hw⟩
      subst w2
      cases pb
      · have hI := HM.out.1.put hjs (by rw [← HS.out.1]; exact HS.out.2.symm)
        rw [← HS.out.1] at hI
        have hR := HM.out.2.1.set i (.string s) (by omega)
        have e3 : (M.map Value.string).set i (.string s) = (M.set i s).map .string := by rw [List.map_set]
        rw [e3] at hR
        have H2 := Lib.hid (And.intro hI (And.intro hR (HM.out.2.2.set (X := fun q => q = gB) (p := ⟨gB, i, none⟩) (.inl rfl) (.string s))))
        clear hI hR e3
        go_wp2
        go_roundg (n - (j + 1))
        case measure => rw [HG.out]; omega
        case rel => exact ⟨i + 1, j + 1, M.set i s, hlt, by omega, by go_num, by go_num, rfl, H2.out⟩
      · have hI := HM.out.1.skip hjs (by rw [← HS.out.1]; exact HS.out.2.symm)
        have H2 := Lib.hid hI
        clear hI
        go_wp2
        go_roundg (n - (j + 1))
        case measure => rw [HG.out]; omega
        case rel => exact ⟨i, j + 1, M, hlt, by omega, by go_num, by go_num, rfl, H2.out, HM.out.2⟩
    · obtain rfl : j = n := by omega
      have hcl : (Builtin.clear_ #[39] 0 #[.slice (some ⟨gB, i, none⟩) (j - i) (cap - i)]).run Tryz.prog wr = .ok (.tuple #[]) (wr.setCells gB i (List.replicate (j - i) (.string ⟨#[]⟩))) := Lib.run_clear_slice (P := Tryz.prog) wr 39 9 0 (.string ⟨#[]⟩) Tryz.underlying39 zeroStr rfl rfl gB i (j - i) (cap - i) (by omega) (fun t ht => by
        rw [hcell (i + t) (by omega), List.getElem?_map, List.getElem?_eq_getElem (by omega)]; rfl) (fun t ht => hfree _)
      obtain ⟨cs', hR, htk, hk⟩ := RowV.sets (List.replicate (j - i) (Value.string ⟨#[]⟩)) i HM.out.2.1 (by rw [List.length_replicate]; omega)
      have hE := HM.out.1
      rw [HN.out] at hE
      have hF := hE.fin
      have hRR := hR.fewer (m := i) (by omega)
      rw [Nat.mul_one, htk, ← List.map_take, hF.1] at hRR
      have H2 := Lib.hid (And.intro hRR (And.intro (HM.out.2.2.trans hk) hF.2))
      clear hRR hk hF hE htk hR cs' hcell hfree hml
      generalize wr.setCells gB i (List.replicate (j - i) (.string ⟨#[]⟩)) = w3 at *
      have s2 : i ≤ j := by omega
      have s4 : i < cap := by omega
      have s5 : i ≤ cap := by omega
      go_wp2
      go_ret
      rw [← H2.out.2.2]
      exact ⟨rfl, H2.out.1, H2.out.2.1⟩
/-- the keys that begin so -/
def pfx (l : KV) (pr : ByteArray) : List ByteArray := (l.map fun p => sK p.1).filter (fun k => Lib.hasPrefix k.data.toList pr.data.toList)
set_option maxHeartbeats 1600000 in
theorem jkeysP (j b : Nat) (t : Addr) (nv hv : Value) (l : KV) (N : Nat → Prop) (pr : ByteArray) (w : World) (h : Blk w j #[.pointer (some t), .map (some b), nv, hv] 74) (hM : JMap N w b l) (hs : Srt l) (hk : ∀ p ∈ l, p.1.length ≤ 100) (hl : l.length ≤ 1000000000000) :
    Calls Tryz.prog 31 #[.pointer (some ⟨j, 0, none⟩), .string pr] w fun e w' => ∃ q c o, e = .returned (.slice q (pfx l pr).length c) ∧ RowV w' 9 1 (.slice q (pfx l pr).length c) (pfx l pr).length ((pfx l pr).map .string) o ∧ (∀ g, o = some g → w.heap.size ≤ g) ∧ Below w.heap.size w w' := by
  have k0 := (Below.refl w.heap.size w).alloc (Nat.le_refl _) (.cells #[.string pr] 9)
  have b0 := Blk.new w #[.string pr] 9
  have HW := Lib.hid (And.intro (h.beyond k0) (And.intro (hM.keep (X := fun _ => False) ((Keep.refl _ w).alloc _) (fun h => h) (fun _ _ _ h => h) : JMap N (w.alloc (.cells #[.string pr] 9)) b l) (And.intro hs (And.intro hk (And.intro hl (And.intro k0 b0))))))
  clear h hM hs hk hl k0 b0
  go_enter Tryz.func31, Tryz.ntmps31
  go_upto_region 1 with fail
  generalize w.alloc (.cells #[.string pr] 9) = w0 at *
  have PN := Lib.hid (jnone j t w0 (HW.out.1.cell 0))
  have c1 : w0.cell? ⟨j, 1, none⟩ = some (.map (some b)) := HW.out.1.cell 1
  obtain ⟨D, hD, hDn, hDs⟩ := HW.out.2.1.keys HW.out.2.2.1 HW.out.2.2.2.1
  have PK := Lib.hid (callsIn_wide.1 (Tryz.maps_KeysM (some b) w0))
  have PS := Lib.hid (callsIn_wide.1 (Tryz.slices_SortedM b l.length D RV w0 hD (by rw [hDn]; unfold maxLen; have := HW.out.2.2.2.2.1; omega) (by rw [hDn]; have := HW.out.2.2.2.2.1; omega)))
  go_wp2_with (first | (refine PN.out.mono ?_; rintro e w' ⟨rfl, rfl⟩) | (refine PK.out.mono ?_; rintro e w' ⟨rfl, rfl⟩) | fail)
  refine PS.out.mono ?_
  rintro e w2 ⟨v, ss, rfl, hS, hrow, hnil, hb2⟩
  have hsl : ss.length = l.length := by
    have := congrArg List.length (hDs ss hS)
    simpa using this
  rw [hDs ss hS, hsl] at hrow
  obtain ⟨o, R, ho, _⟩ := RowV.of_owns hrow
  obtain ⟨q, c, rfl, hle, hcm, _⟩ := R.form
  have hst : StrsAt w2 q (l.map fun p => sK p.1) := fun i hi => by
    have hi' : i < l.length := by simpa using hi
    obtain ⟨g, cap, _, e1, _, _, _, hc, _⟩ := R.mem (by omega)
    cases e1
    refine ⟨g, 0, rfl, ?_⟩
    rw [Nat.zero_add, hc i (by omega)]
    simp [hi', Go.Proofs.encStr, sK]
  have hbx : Below w'.heap.size w' w2 := ((Below.refl _ w').alloc (Nat.le_refl _) (.cells #[.map (some b)] 72)).trans (hb2.mono (by simp))
  have hcx : w2.cell? ⟨w.heap.size, 0, none⟩ = some (.string pr) := (HW.out.2.2.2.2.2.2.beyond hbx).cell 0
  have hgw : w.heap.size < w'.heap.size := HW.out.2.2.2.2.2.2.lt
  have hR2 : RowV w2 9 1 (.slice q (l.map fun p => sK p.1).length c) (l.map fun p => sK p.1).length ((l.map fun p => sK p.1).map .string) o := by
    have h := R
    rw [List.map_map] at h
    rw [List.length_map, List.map_map]
    exact h
  have hln : (l.map fun p => sK p.1).length ≤ 1000000000000 := by rw [List.length_map]; exact HW.out.2.2.2.2.1
  have hlen : (l.map fun p => sK p.1).length = l.length := List.length_map _
  have hog : ∀ g, o = some g → w'.heap.size < g + 1 := fun g hg => by have h1 := (ho g hg).1; simp at h1; omega
  have PDD : Calls Tryz.prog 55 #[.slice q l.length c, .func (.func 56) #[] #[.pointer (some ⟨w.heap.size, 0, none⟩)]] w2 fun e w3 =>
      ∃ q' c' o', e = .returned (.slice q' (pfx l pr).length c') ∧ RowV w3 9 1 (.slice q' (pfx l pr).length c') (pfx l pr).length ((pfx l pr).map .string) o' ∧ (∀ g, o' = some g → w.heap.size ≤ g) ∧ Below w.heap.size w w3 := by
    have hww2 : Below w.heap.size w w2 := HW.out.2.2.2.2.2.1.trans (hbx.mono HW.out.2.2.2.2.2.1.size)
    have hpf : (l.map fun p => sK p.1).filter (fun s => !(fun k : ByteArray => !Lib.hasPrefix k.data.toList pr.data.toList) s) = pfx l pr := by
      unfold pfx; simp only [Bool.not_not]
    rw [← hlen]
    rcases hfi : (l.map fun p => sK p.1).findIdx? (fun k : ByteArray => !Lib.hasPrefix k.data.toList pr.data.toList) with _ | a
    · have hall := List.findIdx?_eq_none_iff.1 hfi
      have PD := pdelete_none (l.map fun p => sK p.1) q c w.heap.size (fun k => !Lib.hasPrefix k.data.toList pr.data.toList) w2 hst (by omega) (fun k => pnoprefix k pr w.heap.size w2 hcx) hall
      refine PD.mono ?_
      rintro e w3 ⟨rfl, hw⟩
      subst hw
      have hself : pfx l pr = l.map fun p => sK p.1 := by rw [← hpf]; exact List.filter_eq_self.2 fun x hx => by have h1 := hall x hx; simp only [Bool.not_eq_true', Bool.not_eq_false'] at h1 ⊢; simpa using h1
      rw [hself]
      exact ⟨q, c, o, rfl, hR2, fun g hg => by have := hog g hg; omega, hww2⟩
    · have hpos : 0 < (l.map fun p => sK p.1).length := by have := (List.findIdx?_eq_some_iff_getElem.1 hfi).1; omega
      obtain ⟨g, cap, rfl, e1, _, _, _, _, _⟩ := hR2.mem hpos
      cases e1
      have hgg := hog g rfl
      have PD := pdelete (l.map fun p => sK p.1) g c w.heap.size (fun k => !Lib.hasPrefix k.data.toList pr.data.toList) w2 hR2 hln (fun wx hk k => pnoprefix k pr w.heap.size wx ((hk.cell (p := ⟨w.heap.size, 0, none⟩) (cell_lt hcx) (fun e => by have e' : w.heap.size = g := e; omega)).trans hcx)) a hfi
      refine PD.mono ?_
      rintro e w3 ⟨rfl, hR3, hk3⟩
      rw [hpf] at hR3 ⊢
      exact ⟨_, c, some g, rfl, hR3, fun g' hg' => by cases hg'; omega, hww2.trans (hk3.below hww2.size (fun k hk => by omega))⟩
  have PDD := Lib.hid PDD
  clear R ho hbx hcx hst hrow hnil hb2 hS hsl hR2 hln hlen hog
  generalize l.length = ln at *
  go_wp2_with fail
  refine PDD.out.mono ?_
  rintro e w3 ⟨q', c', o', rfl, H⟩
  have HF := Lib.hid H
  clear H
  generalize hpl : (pfx l pr).length = pl at *
  have HPL := Lib.hid hpl
  clear hpl
  go_wp2
  go_ret
  rw [HPL.out]
  exact ⟨q', c', o', rfl, HF.out⟩
end Go.Proofs.YtbjbjgfjaopibaaGreatDoor
end

section
/- The document's journal: Get, Keys. -/
namespace Go.Proofs.YtbjbjgfjaopibaaGreatDoor
open Go Go.RowKit
set_option linter.unusedSimpArgs false
set_option linter.unusedVariables false
set_option maxRecDepth 100000

theorem getK_hit {key : ByteArray} : ∀ {L : List PairD} {k : Nat} {x : PairD}, (∀ y ∈ L.take k, hasK key y = false) → L[k]? = some x → hasK key x = true → getK (L.map pairX) (bsK key) = some x.val.z
  | [], k, x, _, h, _ => by simp at h
  | y :: t, 0, x, _, h, hx => by
    simp at h; subst h
    rw [List.map_cons, getK_cons, if_pos (show (pairX y).1 = bsK key from hasK_iff.1 hx)]; rfl
  | y :: t, k + 1, x, hn, h, hx => by
    have hy := hn y (by simp)
    rw [List.map_cons, getK_cons, if_neg (show ¬ (pairX y).1 = bsK key from fun e => by rw [hasK_iff.2 e] at hy; cases hy)]
    exact getK_hit (fun z hz => hn z (by rw [List.take_succ_cons]; exact List.mem_cons_of_mem _ hz)) (by simpa using h) hx
theorem getK_miss {key : ByteArray} {L : List PairD} (h : ∀ y ∈ L, hasK key y = false) : getK (L.map pairX) (bsK key) = none := by
  induction L with
  | nil => rfl
  | cons y t ih =>
    have hy := h y (by simp)
    rw [List.map_cons, getK_cons, if_neg (show ¬ (pairX y).1 = bsK key from fun e => by rw [hasK_iff.2 e] at hy; cases hy)]
    exact ih fun z hz => h z (List.mem_cons_of_mem _ hz)
/-- what Get answers -/
def GetPost (z : Option (List Int)) (w : World) (e : Ending) (w' : World) : Prop := ∃ q c o, e = .returned (.tuple #[.slice q (z.getD []).length c, .bool z.isSome]) ∧ Row w' 5 (.slice q (z.getD []).length c) (z.getD []) o ∧ (∀ g, o = some g → w.heap.size ≤ g) ∧ Below w.heap.size w w'
set_option maxHeartbeats 6400000 in
theorem rget (x : Nat) (T v nv hv : Value) (L : List PairD) (N : Nat → Prop) (key : ByteArray) (w : World) (hB : Blk w x #[T, v, nv, hv] 71) (hL : KvAt N w v L) (hlen : L.length ≤ 100000000) (hvl : ∀ y ∈ L, y.val.z.length ≤ 1048576) :
    Calls Tryz.prog 29 #[.pointer (some ⟨x, 0, none⟩), .string key] w (GetPost (getK (L.map pairX) (bsK key)) w) := by
  obtain ⟨q, c, rfl, hlc⟩ := hL.form
  have c1 := hB.cell 1
  obtain ⟨n, hn⟩ : ∃ n, n = L.length := ⟨_, rfl⟩
  rw [← hn] at hlc c1 hlen
  have HL := Lib.hid (And.intro hL (And.intro hB (And.intro hn hvl)))
  clear hL hB hn hvl
  go_enter Tryz.func29, Tryz.ntmps29
  go_wp2
  go_loopg [13] n (fun gh i wx => ∃ k : Nat, i = .int .i64 (k : Int) ∧ gh = n - k ∧ k ≤ n ∧ Hid ((∀ y ∈ L.take k, hasK key y = false) ∧ Below w.heap.size w wx))
  case atStart => exact ⟨0, rfl, rfl, Nat.zero_le _, (fun y hy => by simp at hy), Below.refl _ _⟩
  case round =>
    obtain ⟨k, rfl, hg, hkn, HK⟩ := hrel
    have HG := Lib.hid hg
    clear hg
    by_cases hlt : k < n
    · obtain ⟨⟨pk, ⟨pa, pc, pz⟩⟩, hxE⟩ : ∃ y : PairD, L[k]? = some y := ⟨L[k]'(by rw [← HL.out.2.2.1]; exact hlt), List.getElem?_eq_getElem _⟩
      have kw : Keep (fun _ => False) w wr := Keep.of_below HK.out.2
      obtain ⟨bb, off, cc, hv0, _, hNb, t0, t1, hat⟩ := (HL.out.1.keep kw (fun _ _ h => h)).get hxE
      rw [← HL.out.2.2.1] at hv0
      cases hv0
      change wr.cell? ⟨bb, off + k * 2, none⟩ = some (.string pk) at t0
      change wr.cell? ⟨bb, off + k * 2 + 1, none⟩ = some (.slice pa pz.length pc) at t1
      have bx := Blk.new wr #[.string pk, .slice pa pz.length pc] 58
      have kx := (Below.refl wr.heap.size wr).alloc (Nat.le_refl _) (.cells #[.string pk, .slice pa pz.length pc] 58)
      have hTk : L.take (k + 1) = L.take k ++ [⟨pk, ⟨pa, pc, pz⟩⟩] := by rw [List.take_add_one, hxE]; rfl
      have hB4 := HK.out.2.trans (kx.mono HK.out.2.size)
      have hat4 := pairK.keep hat (Keep.of_below (X := fun _ => False) kx) (fun _ _ h => h)
      have cx0 := bx.cell 0
      have cx1 := ((Keep.of_below (X := fun _ => False) ((Below.refl _ (wr.alloc (.cells #[.string pk, .slice pa pz.length pc] 58))).alloc (Nat.le_refl _) (.cells #[] 5))).blk bx (fun h => h)).cell 1
      obtain ⟨zl, hzl⟩ : ∃ zl, zl = pz.length := ⟨_, rfl⟩
      obtain ⟨w4, hw4⟩ : ∃ w4, w4 = wr.alloc (.cells #[.string pk, .slice pa pz.length pc] 58) := ⟨_, rfl⟩
      rw [← hw4] at bx kx hB4 hat4 cx0 cx1
      have H4 := Lib.hid (And.intro hB4 (And.intro hat4 (And.intro hTk (And.intro (HK.out.1) hxE))))
      clear hB4 hat4 hTk bx kx hNb hat hxE kw
      rw [← hzl] at t1 cx1 hw4
      have HZL := Lib.hid hzl
      clear hzl
      go_upto_region 4 with fail
      rw [← hw4]
      clear hw4
      by_cases hk : pk = key
      · subst hk
        have hgk := getK_hit H4.out.2.2.2.1 H4.out.2.2.2.2 (show hasK pk ⟨pk, ⟨pa, pc, pz⟩⟩ = true from hasK_iff.2 rfl)
        have hrw := H4.out.2.1.2.1.1.bytes
        have hz1 := H4.out.2.1.2.1.1.len
        obtain ⟨q7, c7, w7, o7, run7, R7, ⟨g7, hg7, hgl7⟩, B7⟩ := none_append (ys := pz) (c := pc) w4 hrw (by have h1 : pz.length ≤ 1048576 := HL.out.2.2.2 _ (List.mem_of_getElem? H4.out.2.2.2.2); omega)
        change (Builtin.append_ #[22, 22] 22 #[.slice (some ⟨w4.heap.size, 0, none⟩) 0 0, .slice pa pz.length pc]).run Tryz.prog (w4.alloc (.cells #[] 5)) = .ok (.slice q7 pz.length c7) w7 at run7
        have HF := Lib.hid (And.intro R7 (And.intro (show ∀ g, o7 = some g → w.heap.size ≤ g from fun g e => by rw [hg7] at e; cases e; have := H4.out.1.size; omega) (H4.out.1.trans (B7.mono H4.out.1.size))))
        have HK2 := Lib.hid hgk
        rw [← HZL.out] at run7
        clear hgk hrw hz1 R7 hg7 hgl7 B7
        go_wp2_with (at_builtin; refine wpl_append rfl _ _ 22 rfl rfl rfl run7 ?_)
        exact bodyPost_ret (results_tmp2 Tryz.results29 _ _ _) rfl ⟨q7, c7, o7, by rw [HK2.out, HZL.out]; rfl, by rw [HK2.out]; exact HF.out.1, HF.out.2.1, HF.out.2.2⟩
      · have hkb : (pk.toList == key.toList) = false := beq_eq_false_iff_ne.2 fun e => hk (by rw [ByteArray.toList_eq, ByteArray.toList_eq] at e; exact congrArg sK e)
        have hN : ∀ y ∈ L.take (k + 1), hasK key y = false := fun y hy => by
          rw [H4.out.2.2.1] at hy
          rcases List.mem_append.1 hy with hy | hy
          · exact H4.out.2.2.2.1 y hy
          · rw [List.mem_singleton.1 hy]; exact hkb
        have H8 := Lib.hid (And.intro hN H4.out.1)
        clear hN
        go_wp2
        go_roundg (n - (k + 1))
        case measure => rw [HG.out]; omega
        case rel => exact ⟨k + 1, by go_num, rfl, hlt, H8.out⟩
    · obtain rfl : k = n := by omega
      have hm := getK_miss (L := L) (key := key) (by have h := HK.out.1; rw [HL.out.2.2.1, List.take_length] at h; exact h)
      have HM := Lib.hid (And.intro hm HK.out.2)
      clear hm
      go_wp2
      exact bodyPost_ret (results_tmp2 Tryz.results29 _ _ _) rfl ⟨none, 0, none, by rw [HM.out.1]; rfl, by rw [HM.out.1]; exact Row.nil _ _, (fun g e => by cases e), HM.out.2⟩
theorem pfx_snoc (l : KV) (p : Key × List Int) (pr : ByteArray) : pfx (l ++ [p]) pr = if Lib.hasPrefix (sK p.1).data.toList pr.data.toList = true then pfx l pr ++ [sK p.1] else pfx l pr := by
  unfold pfx
  rw [List.map_append, List.filter_append]
  cases h : Lib.hasPrefix (sK p.1).data.toList pr.data.toList <;> simp [h]
theorem strs_flat : ∀ X : List ByteArray, X.flatMap strK.cs = X.map .string
  | [] => rfl
  | y :: t => by rw [List.flatMap_cons, strs_flat t]; rfl
theorem pfx_len (l : KV) (pr : ByteArray) : (pfx l pr).length ≤ l.length := by unfold pfx; exact Nat.le_trans (List.length_filter_le _ _) (by simp)
theorem pre_take (k pr : ByteArray) : Lib.hasPrefix k.data.toList pr.data.toList = (decide (pr.size ≤ k.size) && ((k.extract 0 pr.size).toList == pr.toList)) := by
  rw [← Lib.hasPrefix_of_take, Lib.toList_data, Lib.toList_data, Lib.extract_data, Lib.size_eq, Lib.size_eq, List.drop_zero, Nat.sub_zero]
set_option maxHeartbeats 6400000 in
theorem rkeys (x : Nat) (T v nv hv : Value) (L : List PairD) (N : Nat → Prop) (pr : ByteArray) (w : World) (hB : Blk w x #[T, v, nv, hv] 71) (hL : KvAt N w v L) (hlen : L.length ≤ 100000000) (hpr : pr.size ≤ 1048576) (hks : ∀ y ∈ L, y.key.size ≤ 1048576) :
    Calls Tryz.prog 27 #[.pointer (some ⟨x, 0, none⟩), .string pr] w fun e w' => ∃ q c o, e = .returned (.slice q (pfx (L.map pairX) pr).length c) ∧ RowV w' 9 1 (.slice q (pfx (L.map pairX) pr).length c) (pfx (L.map pairX) pr).length ((pfx (L.map pairX) pr).map .string) o ∧ (∀ g, o = some g → w.heap.size ≤ g) ∧ Below w.heap.size w w' := by
  obtain ⟨q, c, rfl, hlc⟩ := hL.form
  have c1 := hB.cell 1
  obtain ⟨n, hn⟩ : ∃ n, n = L.length := ⟨_, rfl⟩
  rw [← hn] at hlc c1 hlen
  have HL := Lib.hid (And.intro hL (And.intro hB (And.intro hn hks)))
  clear hL hB hn hks
  go_enter Tryz.func27, Tryz.ntmps27
  go_wp2
  go_loopg [5, 13] n (fun gh vo i wx => ∃ (k : Nat) (X : List ByteArray) (o : Option Nat), i = .int .i64 (k : Int) ∧ gh = n - k ∧ k ≤ n ∧ Hid (LstO strK 9 wx w.heap.size o vo X ∧ X = pfx ((L.take k).map pairX) pr ∧ Below w.heap.size w wx))
  case atStart => exact ⟨0, [], none, rfl, rfl, Nat.zero_le _, LstO.nil _ _ _ _, rfl, Below.refl _ _⟩
  case round =>
    obtain ⟨k, X, o, rfl, hg, hkn, HK⟩ := hrel
    have HG := Lib.hid hg
    clear hg
    obtain ⟨qo, no, rfl, _⟩ := HK.out.1.1.form
    have hXl : X.length ≤ k := by
      rw [HK.out.2.1]
      have h1 := pfx_len ((L.take k).map pairX) pr
      rw [List.length_map] at h1
      have h2 := List.length_take_le k L
      omega
    by_cases hlt : k < n
    · obtain ⟨⟨pk, ⟨pa, pc, pz⟩⟩, hxE⟩ : ∃ y : PairD, L[k]? = some y := ⟨L[k]'(by rw [← HL.out.2.2.1]; exact hlt), List.getElem?_eq_getElem _⟩
      have kw : Keep (fun _ => False) w wr := Keep.of_below HK.out.2.2
      obtain ⟨bb, off, cc, hv0, _, hNb, t0, t1, hat⟩ := (HL.out.1.keep kw (fun _ _ h => h)).get hxE
      rw [← HL.out.2.2.1] at hv0
      cases hv0
      change wr.cell? ⟨bb, off + k * 2, none⟩ = some (.string pk) at t0
      change wr.cell? ⟨bb, off + k * 2 + 1, none⟩ = some (.slice pa pz.length pc) at t1
      have hks : pk.size ≤ 1048576 := HL.out.2.2.2 _ (List.mem_of_getElem? hxE)
      have bx := Blk.new wr #[.string pk, .slice pa pz.length pc] 58
      have kx := (Below.refl wr.heap.size wr).alloc (Nat.le_refl _) (.cells #[.string pk, .slice pa pz.length pc] 58)
      have hTk : pfx ((L.take (k + 1)).map pairX) pr = if Lib.hasPrefix pk.data.toList pr.data.toList = true then pfx ((L.take k).map pairX) pr ++ [pk] else pfx ((L.take k).map pairX) pr := by
        rw [List.take_add_one, hxE]
        show pfx ((L.take k ++ [(⟨pk, ⟨pa, pc, pz⟩⟩ : PairD)]).map pairX) pr = _
        rw [List.map_append]
        show pfx ((L.take k).map pairX ++ [pairX ⟨pk, ⟨pa, pc, pz⟩⟩]) pr = _
        rw [pfx_snoc]
        show (if Lib.hasPrefix (sK (bsK pk)).data.toList pr.data.toList = true then _ ++ [sK (bsK pk)] else _) = _
        rw [sK_bsK]
      have hg : w.heap.size ≤ wr.heap.size := HK.out.2.2.size
      have L4 := HK.out.1.more kx
      have hB4 := HK.out.2.2.trans (kx.mono hg)
      have cx0 := bx.cell 0
      have hxs := HK.out.2.1
      have H4 := Lib.hid (And.intro L4 (And.intro hB4 (And.intro hTk (And.intro hxs hg))))
      clear L4 hB4 hTk hxs bx hg hNb hat hxE kw
      obtain ⟨zl, hzl⟩ : ∃ zl, zl = pz.length := ⟨_, rfl⟩
      rw [← hzl] at t1 cx0
      obtain ⟨w4, hw4⟩ : ∃ w4, w4 = wr.alloc (.cells #[.string pk, .slice pa pz.length pc] 58) := ⟨_, rfl⟩
      rw [← hw4] at H4 kx
      rw [← hzl] at hw4
      rw [← hw4] at cx0
      clear hzl kx
      go_upto_region 5 with fail
      rw [← hw4]
      clear hw4
      by_cases hps : pr.size ≤ pk.size
      · cases heq : ((pk.extract 0 pr.size).toList == pr.toList) with
        | false =>
          have hnp : Lib.hasPrefix pk.data.toList pr.data.toList = false := (by rw [pre_take, heq, Bool.and_false])
          have hX8 : X = pfx ((L.take (k + 1)).map pairX) pr := by rw [H4.out.2.2.1, if_neg (by rw [hnp]; decide)]; exact H4.out.2.2.2.1
          have H8 := Lib.hid (And.intro H4.out.1 (And.intro hX8 H4.out.2.1))
          clear hnp hX8
          go_wp2
          go_roundg (n - (k + 1))
          case measure => rw [HG.out]; omega
          case rel => exact ⟨k + 1, X, o, by go_num, rfl, hlt, H8.out⟩
        | true =>
          have hp : Lib.hasPrefix pk.data.toList pr.data.toList = true := by rw [pre_take, heq, Bool.and_true]; exact decide_eq_true hps
          have hX8 : X ++ [pk] = pfx ((L.take (k + 1)).map pairX) pr := by rw [H4.out.2.2.1, if_pos hp, ← H4.out.2.2.2.1]
          obtain ⟨i1, z1, f1, f2, f3, f4, f5⟩ := info_ofJ strInf
          obtain ⟨q8, n8, v7, w7, o7, hv8, run7, L7, k7, ho7⟩ := H4.out.1.add 39 Tryz.underlying39 f1 f2 f3 f4 f5 (by decide) H4.out.2.1.size (x := pk) (show pk.size ≤ MB by unfold MB; omega) (by unfold maxLen; omega) (by omega)
          cases hv8
          change (Builtin.append_ #[39, 39] 39 #[.slice qo X.length no, .slice (some ⟨w4.heap.size, 0, none⟩) 1 1]).run Tryz.prog (w4.alloc (.cells #[.string pk] 9)) = .ok v7 w7 at run7
          obtain ⟨q7, n7, rfl, _⟩ := L7.1.form
          have B7 : Below w.heap.size w w7 := H4.out.2.1.trans (k7.below H4.out.2.1.size (fun b e => H4.out.1.2.1 b e))
          obtain ⟨l7, hl7⟩ : ∃ l7, l7 = (X ++ [pk]).length := ⟨_, rfl⟩
          rw [← hl7] at run7 L7
          have H8 := Lib.hid (And.intro L7 (And.intro hX8 B7))
          clear L7 hX8 B7 k7 ho7 f1 f2 f3 f4 f5 hl7 hp
          obtain ⟨xl, hxl⟩ : ∃ xl, xl = X.length := ⟨_, rfl⟩
          rw [← hxl] at run7 hXl ⊢
          clear hxl
          go_wp2_with (at_builtin; refine wpl_append rfl _ _ 39 rfl rfl rfl run7 ?_)
          go_roundg (n - (k + 1))
          case measure => rw [HG.out]; omega
          case rel => exact ⟨k + 1, _, o7, by go_num, rfl, hlt, H8.out⟩
      · 
        have hnp : Lib.hasPrefix pk.data.toList pr.data.toList = false := (by rw [pre_take, decide_eq_false hps, Bool.false_and])
        have hX8 : X = pfx ((L.take (k + 1)).map pairX) pr := by rw [H4.out.2.2.1, if_neg (by rw [hnp]; decide)]; exact H4.out.2.2.2.1
        have H8 := Lib.hid (And.intro H4.out.1 (And.intro hX8 H4.out.2.1))
        clear hnp hX8
        go_wp2
        go_roundg (n - (k + 1))
        case measure => rw [HG.out]; omega
        case rel => exact ⟨k + 1, X, o, by go_num, rfl, hlt, H8.out⟩
    · obtain rfl : k = n := by omega
      have hXa : X = pfx (L.map pairX) pr := by
        have h := HK.out.2.1
        rwa [HL.out.2.2.1, List.take_length] at h
      have hR := HK.out.1.1
      rw [strs_flat] at hR
      have HF := Lib.hid (And.intro hR (And.intro HK.out.1.2.1 HK.out.2.2))
      have HXA := Lib.hid hXa
      clear hXa hR
      obtain ⟨xl, hxl⟩ : ∃ xl, xl = X.length := ⟨_, rfl⟩
      have HXL := Lib.hid hxl
      rw [← hxl] at hXl ⊢
      clear hxl
      go_wp2
      go_ret
      rw [← HXA.out]
      exact ⟨qo, no, o, by rw [HXL.out]; rfl, HF.out.1, HF.out.2.1, HF.out.2.2⟩
end Go.Proofs.YtbjbjgfjaopibaaGreatDoor
end
