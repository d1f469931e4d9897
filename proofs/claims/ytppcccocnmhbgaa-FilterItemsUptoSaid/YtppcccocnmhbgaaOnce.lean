/- filter.once and the document's unlike: items that are not empty, each once. -/
import Derived.Test.YtppcccocnmhbgaaKMap
import Derived.Test.YtppcccocnmhbgaaOpenRows
import Derived.Test.YtppcccocnmhbgaaClone
import Derived.Laws.BytesArg
namespace Go.Proofs.Ytppcccocnmhbgaa
open Go Go.RowKit Go.Maps Go.ChangeMaps
set_option linter.unusedSimpArgs false
set_option linter.unusedVariables false
set_option maxRecDepth 100000

/-- items that are not empty, each once, in order -/
def unlikeN (Z : Nat → List Int) : Nat → List (List Int)
  | 0 => []
  | k + 1 => if Z k = [] ∨ Z k ∈ unlikeN Z k then unlikeN Z k else unlikeN Z k ++ [Z k]
theorem unlikeN_skip {Z : Nat → List Int} {k : Nat} (h : Z k = [] ∨ Z k ∈ unlikeN Z k) : unlikeN Z (k + 1) = unlikeN Z k := by show (if _ then _ else _) = _; rw [if_pos h]
theorem unlikeN_more {Z : Nat → List Int} {k : Nat} (h : ¬ (Z k = [] ∨ Z k ∈ unlikeN Z k)) : unlikeN Z (k + 1) = unlikeN Z k ++ [Z k] := by show (if _ then _ else _) = _; rw [if_neg h]
theorem unlikeN_len (Z : Nat → List Int) : ∀ k, (unlikeN Z k).length ≤ k
  | 0 => Nat.le_refl _
  | k + 1 => by
    have := unlikeN_len Z k
    by_cases h : Z k = [] ∨ Z k ∈ unlikeN Z k
    · rw [unlikeN_skip h]; omega
    · rw [unlikeN_more h, List.length_append]; simp; omega
theorem unlikeN_mem {Z : Nat → List Int} : ∀ {k : Nat} {x : List Int}, x ∈ unlikeN Z k → ∃ i, i < k ∧ x = Z i
  | k + 1, x, h => by
    by_cases hc : Z k = [] ∨ Z k ∈ unlikeN Z k
    · rw [unlikeN_skip hc] at h
      obtain ⟨i, hi, e⟩ := unlikeN_mem h
      exact ⟨i, by omega, e⟩
    · rw [unlikeN_more hc, List.mem_append] at h
      rcases h with h | h
      · obtain ⟨i, hi, e⟩ := unlikeN_mem h
        exact ⟨i, by omega, e⟩
      · exact ⟨k, by omega, by simpa using h⟩
/-- bytes as a string say the bytes -/
theorem strOf_inj {xs ys : List Int} (hx : ∀ y ∈ xs, 0 ≤ y ∧ y ≤ 255) (hy : ∀ y ∈ ys, 0 ≤ y ∧ y ≤ 255) (h : (strOfNums xs).data.toList = (strOfNums ys).data.toList) : xs = ys := by
  rw [strOfNums_data, strOfNums_data] at h
  induction xs generalizing ys with
  | nil => cases ys with
    | nil => rfl
    | cons y r => simp at h
  | cons x r ih => cases ys with
    | nil => simp at h
    | cons y s =>
      simp only [List.map_cons, List.cons.injEq] at h
      obtain ⟨h1, h2⟩ := h
      have e : x = y := by
        have := congrArg UInt8.toNat h1
        rw [UInt8.toNat_ofNat', UInt8.toNat_ofNat'] at this
        have a := hx x (List.mem_cons_self ..)
        have b := hy y (List.mem_cons_self ..)
        omega
      rw [e, ih (fun z hz => hx z (List.mem_cons_of_mem _ hz)) (fun z hz => hy z (List.mem_cons_of_mem _ hz)) h2]
/-- what the map of those that were met has -/
def metF (acc : List (List Int)) : Value → Option Value
  | .string s => if acc.any (fun Z => (strOfNums Z).data.toList == s.data.toList) then some (.bool true) else none
  | _ => none
theorem metF_str (acc : List (List Int)) (s : ByteArray) : metF acc (.string s) = if acc.any (fun Z => (strOfNums Z).data.toList == s.data.toList) then some (.bool true) else none := rfl
theorem metF_nil : metF [] = fun _ => none := by funext v; cases v <;> rfl
theorem metF_look {acc : List (List Int)} (ha : ∀ x ∈ acc, ∀ y ∈ x, 0 ≤ y ∧ y ≤ 255) {x : List Int} (hx : ∀ y ∈ x, 0 ≤ y ∧ y ≤ 255) : (metF acc (.string (strOfNums x))).getD (.bool false) = .bool (decide (x ∈ acc)) := by
  rw [metF_str]
  by_cases h : x ∈ acc
  · rw [if_pos (by rw [List.any_eq_true]; exact ⟨x, h, by simp⟩), decide_eq_true h]; rfl
  · rw [if_neg (fun hc => by
      rw [List.any_eq_true] at hc
      obtain ⟨z, hz, e⟩ := hc
      exact h (strOf_inj (ha z hz) hx (by simpa using e) ▸ hz)), decide_eq_false h]; rfl
theorem metF_same (acc : List (List Int)) (x : List Int) : metF (acc ++ [x]) (.string (strOfNums x)) = some (.bool true) := by
  rw [metF_str, if_pos (by rw [List.any_eq_true]; exact ⟨x, by simp, by simp⟩)]
theorem metF_other (acc : List (List Int)) (x : List Int) (v : Value) (h : v ≠ .string (strOfNums x)) : metF (acc ++ [x]) v = metF acc v := by
  cases v with
  | string s =>
    have hne : ((strOfNums x).data.toList == s.data.toList) = false := by
      rw [beq_eq_false_iff_ne]
      intro e
      apply h
      congr 1
      apply ByteArray.ext
      exact (Array.toList_inj.1 e).symm
    rw [metF_str, metF_str, List.any_append]
    simp only [List.any_cons, List.any_nil, hne, Bool.or_false]
  | _ => rfl
/-- block b is there, and may be written -/
def FreeAt (w : World) (b : Nat) : Prop := b < w.heap.size ∧ ∀ j, w.frozen? ⟨b, j, none⟩ = false
theorem FreeAt.keep {X : Nat → Prop} {w w' : World} {b : Nat} (h : FreeAt w b) (hk : Keep X w w') (hn : ¬ X b) : FreeAt w' b := ⟨Nat.lt_of_lt_of_le h.1 hk.size, fun j => (World.frozen?_of_block (w := w) (a := ⟨b, j, none⟩) (hk.block b h.1 hn)).trans (h.2 j)⟩
theorem Row.free {w : World} {e : TypeId} {v : Value} {xs : List Int} {o : Option Nat} (h : Row w e v xs o) : ∀ g, o = some g → FreeAt w g := by
  intro g hg
  rcases h with ⟨_, _, h0⟩ | ⟨g', cap, cur, h0, h1, h2, h3⟩
  · rw [h0] at hg; cases hg
  · rw [h0] at hg; cases hg; exact ⟨h2.lt, h2.free⟩
/-- the rows among cells, each in memory made behind G and none in block o -/
def RowsAt (w : World) (G : Nat) (o : Option Nat) (cs : List Value) (Zs : List (List Int)) : Prop :=
  cs.length = Zs.length ∧ ∀ i, i < Zs.length → ∃ A C, cs[i]? = some (.slice A (Zs.getD i []).length C) ∧ RowOf w (.slice A (Zs.getD i []).length C) A C (Zs.getD i []) ∧ ∀ q, A = some q → G ≤ q.block ∧ o ≠ some q.block ∧ FreeAt w q.block
theorem RowOf.keep {X : Nat → Prop} {w w' : World} {v : Value} {A : Option Addr} {C : Nat} {Z : List Int} (h : RowOf w v A C Z) (hk : Keep X w w') (hn : ∀ q, A = some q → ¬ X q.block) : RowOf w' v A C Z :=
  ⟨h.form, bytes_keep h.bytes hk (fun _ q hq => hn q hq), h.len, h.cap, h.most, h.none, h.range, fun q hq h0 => Nat.lt_of_lt_of_le (h.there q hq h0) hk.size⟩
theorem RowsAt.nil (w : World) (G : Nat) (o : Option Nat) : RowsAt w G o [] [] := ⟨rfl, fun i hi => by simp at hi⟩
theorem RowsAt.keep {X : Nat → Prop} {w w' : World} {G : Nat} {o : Option Nat} {cs : List Value} {Zs : List (List Int)} (h : RowsAt w G o cs Zs) (hk : Keep X w w') (hn : ∀ g, X g → o = some g ∨ g < G) : RowsAt w' G o cs Zs :=
  ⟨h.1, fun i hi => by
    obtain ⟨A, C, h1, h2, h3⟩ := h.2 i hi
    have hx : ∀ q, A = some q → ¬ X q.block := fun q hq hX => by
      rcases hn _ hX with h | h
      · exact (h3 q hq).2.1 h
      · have := (h3 q hq).1; omega
    exact ⟨A, C, h1, h2.keep hk hx, fun q hq => ⟨(h3 q hq).1, (h3 q hq).2.1, (h3 q hq).2.2.keep hk (hx q hq)⟩⟩⟩
theorem RowsAt.moved {w : World} {G : Nat} {o o' : Option Nat} {cs : List Value} {Zs : List (List Int)} (h : RowsAt w G o cs Zs) (ho : o' = o ∨ ∃ g, o' = some g ∧ w.heap.size ≤ g) : RowsAt w G o' cs Zs :=
  ⟨h.1, fun i hi => by
    obtain ⟨A, C, h1, h2, h3⟩ := h.2 i hi
    refine ⟨A, C, h1, h2, fun q hq => ⟨(h3 q hq).1, ?_, (h3 q hq).2.2⟩⟩
    rcases ho with rfl | ⟨g, rfl, hg⟩
    · exact (h3 q hq).2.1
    · intro e; cases e; have := (h3 q hq).2.2.1; omega⟩
theorem RowsAt.grow {w w' : World} {G : Nat} {o o' : Option Nat} {cs : List Value} {Zs : List (List Int)} (h : RowsAt w G o cs Zs) (hk : Keep (fun k => o = some k) w w') (ho : o' = o ∨ ∃ g, o' = some g ∧ w.heap.size ≤ g) : RowsAt w' G o' cs Zs :=
  ⟨h.1, fun i hi => by
    obtain ⟨A, C, h1, h2, h3⟩ := (h.moved ho).2 i hi
    obtain ⟨A', C', h1', _, h3'⟩ := h.2 i hi
    rw [h1] at h1'
    cases h1'
    exact ⟨A, C, h1, h2.keep hk (fun q hq hX => (h3' q hq).2.1 hX), fun q hq => ⟨(h3 q hq).1, (h3 q hq).2.1, (h3' q hq).2.2.keep hk (fun hX => (h3' q hq).2.1 hX)⟩⟩⟩
theorem RowsAt.snoc {w : World} {G : Nat} {o : Option Nat} {cs : List Value} {Zs : List (List Int)} (h : RowsAt w G o cs Zs) {A : Option Addr} {C : Nat} {Z : List Int} (hR : RowOf w (.slice A Z.length C) A C Z) (hq : ∀ q, A = some q → G ≤ q.block ∧ o ≠ some q.block ∧ FreeAt w q.block) :
    RowsAt w G o (cs ++ [.slice A Z.length C]) (Zs ++ [Z]) :=
  ⟨by rw [List.length_append, List.length_append, h.1]; rfl, fun i hi => by
    rw [List.length_append] at hi
    rcases Nat.lt_or_ge i Zs.length with hlt | hge
    · obtain ⟨A', C', h1, h2, h3⟩ := h.2 i hlt
      have e : (Zs ++ [Z]).getD i [] = Zs.getD i [] := by rw [List.getD_eq_getElem?_getD, List.getD_eq_getElem?_getD, List.getElem?_append_left hlt]
      rw [e]
      exact ⟨A', C', by rw [List.getElem?_append_left (by rw [h.1]; exact hlt)]; exact h1, h2, h3⟩
    · obtain rfl : i = Zs.length := by simp at hi; omega
      have e : (Zs ++ [Z]).getD Zs.length [] = Z := by simp [List.getD_eq_getElem?_getD]
      rw [e]
      exact ⟨A, C, by rw [← h.1]; simp, hR, hq⟩⟩
/-- a list of rows in memory of its own -/
def ListOf (w : World) (G : Nat) (v : Value) (Zs : List (List Int)) : Prop :=
  ∃ cs o, RowV w 26 1 v Zs.length cs o ∧ (∀ g, o = some g → G ≤ g) ∧ RowsAt w G o cs Zs
/-- it is read as rows that came in are -/
theorem ListOf.rows {w : World} {G : Nat} {v : Value} {Zs : List (List Int)} (h : ListOf w G v Zs) : ∃ q c A C, v = .slice q Zs.length c ∧ Zs.length ≤ c ∧ c ≤ 9223372036854775807 ∧ RowsIn w q Zs.length A C (fun i => Zs.getD i []) := by
  obtain ⟨cs, o, hv, ho, hr⟩ := h
  obtain ⟨q, c, rfl, hle, hcm, _⟩ := hv.form
  have hch : ∀ i, i < Zs.length → ∃ y : Option Addr × Nat, cs[i]? = some (.slice y.1 (Zs.getD i []).length y.2) ∧ RowOf w (.slice y.1 (Zs.getD i []).length y.2) y.1 y.2 (Zs.getD i []) := fun i hi => by
    obtain ⟨A, C, h1, h2, _⟩ := hr.2 i hi
    exact ⟨(A, C), h1, h2⟩
  obtain ⟨y, hy⟩ := Go.Deep.choose_lt hch
  refine ⟨q, c, fun i => (y i).1, fun i => (y i).2, rfl, hle, by unfold maxLen at hcm; omega, fun i hi => ?_⟩
  obtain ⟨g, cap, _, e, _, _, _, hc, _⟩ := hv.mem (by omega)
  injection e with e1
  obtain ⟨h1, h2⟩ := hy i hi
  exact ⟨g, 0, e1, by rw [Nat.zero_add, hc i (by omega)]; exact h1, h2⟩
theorem zeroBool (w : World) : (zeroValue 4).run Try.prog w = .ok (.bool false) w := by kernel_rfl
theorem rowinfo : (Try.prog.info? 26).map (fun i => (i.zero, i.size, i.bytes)) = some (some (.slice none 0 0), 1, 24) := by kernel_rfl
theorem rowOf_clone {w : World} {p : Option Addr} {c : Nat} {xs : List Int} {o : Option Nat} (h : Row w 5 (.slice p xs.length c) xs o) (hl : xs.length ≤ 140737488351232) (hr : ∀ y ∈ xs, 0 ≤ y ∧ y ≤ 255) : RowOf w (.slice p xs.length c) p c xs ∧ ∀ q, p = some q → o = some q.block := by
  obtain ⟨p', c', e, hy, hle, hcm, hcase⟩ := h.form
  cases e
  refine ⟨⟨rfl, hy, hl, hle, by unfold maxLen at hcm; omega, fun hp => ?_, hr, fun q hq h0 => ?_⟩, fun q hq => ?_⟩
  · rcases hcase with ⟨_, _, h0, _⟩ | ⟨g, _, h0, _⟩
    · exact h0
    · rw [h0] at hp; cases hp
  · rcases hcase with ⟨h0', _⟩ | ⟨g, hg, h0', hlt⟩
    · rw [h0'] at hq; cases hq
    · rw [h0'] at hq; cases hq; exact hlt
  · rcases hcase with ⟨h0', _⟩ | ⟨g, hg, h0', hlt⟩
    · rw [h0'] at hq; cases hq
    · rw [h0'] at hq; cases hq; exact hg
set_option maxHeartbeats 3200000 in
theorem ponce (a0 : Option Addr) (len cap : Nat) (A : Nat → Option Addr) (C : Nat → Nat) (Z : Nat → List Int) (w : World) (hR : RowsIn w a0 len A C Z) (hl : len ≤ 5000000000000) :
    Calls Try.prog 31 #[.slice a0 len cap] w fun e w' => (∃ v, e = .returned v ∧ ListOf w' w.heap.size v (unlikeN Z len)) ∧ Below w.heap.size w w' := by
  obtain ⟨i0, hi, hz0, hz1, hz2⟩ := info_parts rowinfo
  have HI := Lib.hid (And.intro hi (And.intro hz0 (And.intro hz1 hz2)))
  clear hi hz0 hz1 hz2
  have HR := Lib.hid hR
  have M0 := Lib.hid (KMap.made w Try.prog 9)
  have K0 := Lib.hid ((Below.refl w.heap.size w).alloc (Nat.le_refl _) (.map #[] 0))
  clear hR
  go_enter Try.func31, Try.ntmps31
  go_wp2_with (refine wpl_makeMap rfl _ rfl ?_)
  generalize w.alloc (.map #[] 0) = W at *
  generalize hgw : w.heap.size = G at *
  go_loopg [4, 10] len (fun gh v i wx => ∃ (k n : Nat) (cs : List Value) (o : Option Nat), k ≤ len ∧ i = .int .i64 (k : Int) ∧ gh = len - k ∧ Hid (n ≤ k ∧ RowV wx 26 1 v (unlikeN Z k).length cs o ∧ (∀ g, o = some g → G < g) ∧ RowsAt wx (G + 1) o cs (unlikeN Z k) ∧ KMap Try.prog 9 wx G (metF (unlikeN Z k)) n ∧ Below G w wx))
  case atStart => exact ⟨0, 0, [], none, Nat.zero_le _, rfl, rfl, Nat.le_refl _, RowV.nil _ _ _, fun g hg => (by cases hg), RowsAt.nil _ _ _, by show KMap Try.prog 9 W G (metF []) 0; rw [metF_nil]; exact M0.out, K0.out⟩
  case round =>
    obtain ⟨k, n, cs, o, hk, rfl, hg, HK⟩ := hrel
    have HG := Lib.hid hg
    clear hg
    by_cases hlt : k < len
    · obtain ⟨b, off, rfl, hc, hrow⟩ := (HR.out.below (by rw [hgw]; exact HK.out.2.2.2.2.2)) k hlt
      have hacc : ∀ x ∈ unlikeN Z k, ∀ y ∈ x, 0 ≤ y ∧ y ≤ 255 := fun x hx => by
        obtain ⟨i, hi, rfl⟩ := unlikeN_mem hx
        obtain ⟨_, _, _, _, h⟩ := HR.out i (by omega)
        exact h.range
      have HACC := Lib.hid hacc
      have HROW := Lib.hid hrow
      have hskip := @unlikeN_skip Z k
      have hmore := @unlikeN_more Z k
      have HSM := Lib.hid (And.intro hskip hmore)
      clear hacc hskip hmore
      obtain ⟨z, hz⟩ : ∃ z, z = (Z k).length := ⟨_, rfl⟩
      rw [← hz] at hc
      have HZ := Lib.hid hz
      clear hz
      by_cases hz0 : z = 0
      · subst hz0
        have hsk := HSM.out.1 (.inl (List.eq_nil_of_length_eq_zero HZ.out.symm))
        have HSK := Lib.hid hsk
        clear hsk hrow
        go_wp2
        go_roundg (len - (k + 1))
        case measure => rw [HG.out]; omega
        case rel => exact ⟨k + 1, n, cs, o, hlt, rfl, rfl, by have := HK.out.1; omega, by rw [HSK.out]; exact HK.out.2.1, HK.out.2.2.1, by rw [HSK.out]; exact HK.out.2.2.2.1, by rw [HSK.out]; exact HK.out.2.2.2.2.1, HK.out.2.2.2.2.2⟩
      · have z1 : (0 : Int) < (z : Int) := by omega
        have z2 : decide ((0 : Int) < (z : Int)) = true := decide_eq_true z1
        obtain ⟨pb, po, hA, hcl⟩ := hrow.bytes.at (by rw [← HZ.out]; omega)
        rw [← HZ.out] at hcl
        have hcv := run_convert_bytes_arg (P := Try.prog) wr 26 5 Try.underlying26 Try.underlying5 pb po z (C k) (Z k) HZ.out.symm hcl 9 Try.underlying9
        have hkey : keyOf Try.prog 9 (.string (strOfNums (Z k))) = some (.string (strOfNums (Z k)).data.toList) := keyOf_string Try.underlying9 _ (by rw [strOfNums_size]; have := hrow.len; unfold maxLen; omega)
        have hlk := HK.out.2.2.2.2.1.look (string_keyed Try.underlying9) Try.underlying50 (zeroBool wr) hkey
        rw [metF_look HACC.out hrow.range] at hlk
        rw [hA] at hc
        have HA := Lib.hid hA
        have HKEY := Lib.hid hkey
        clear hrow hcl hA hkey
        by_cases hin : Z k ∈ unlikeN Z k
        · have hsk := HSM.out.1 (.inr hin)
          have HSK := Lib.hid hsk
          rw [decide_eq_true hin] at hlk
          clear hsk hin
          generalize strOfNums (Z k) = S at *
          go_wp2
          go_roundg (len - (k + 1))
          case measure => rw [HG.out]; omega
          case rel => exact ⟨k + 1, n, cs, o, hlt, rfl, rfl, by have := HK.out.1; omega, by rw [HSK.out]; exact HK.out.2.1, HK.out.2.2.1, by rw [HSK.out]; exact HK.out.2.2.2.1, by rw [HSK.out]; exact HK.out.2.2.2.2.1, HK.out.2.2.2.2.2⟩
        · have hmr := HSM.out.2 (fun h => by
            rcases h with h | h
            · have := HZ.out; rw [h] at this; exact hz0 this
            · exact hin h)
          have HMR := Lib.hid hmr
          rw [decide_eq_false hin] at hlk
          clear hmr hin
          generalize hS : strOfNums (Z k) = S at *
          have HS := Lib.hid hS
          clear hS
          have hkey := HKEY.out
          have hf1 : metF (unlikeN Z (k + 1)) (.string S) = some (.bool true) := by rw [HMR.out, ← HS.out]; exact metF_same _ _
          have hf2 : ∀ y, y ≠ .string S → metF (unlikeN Z (k + 1)) y = metF (unlikeN Z k) y := fun y hy => by rw [HMR.out]; exact metF_other _ _ y (by rw [HS.out]; exact hy)
          obtain ⟨w3, hrunS, m3, k3⟩ := HK.out.2.2.2.2.1.store (string_keyed Try.underlying9) Try.underlying50 (by have := HK.out.1; unfold maxLen; omega) hkey (.bool true) (metF (unlikeN Z (k + 1))) hf1 hf2
          have K3 := HK.out.2.2.2.2.2.trans (k3.below (by rw [← hgw]; exact HK.out.2.2.2.2.2.size) (fun g hg => by rw [hg]; exact Nat.le_refl _))
          have M3 := Lib.hid m3
          have hrow3 := (HR.out.below (by rw [hgw]; exact K3)).row hlt
          have PC := bclone (A k) (C k) (Z k) w3 hrow3.bytes (by have := hrow3.len; omega) hrow3.none hrow3.cap
          rw [HA.out, ← HZ.out] at PC
          replace PC := Lib.hid PC
          have rv3 := HK.out.2.1.keep k3 (fun g hg e => by have := HK.out.2.2.1 g hg; omega)
          have ra3 := HK.out.2.2.2.1.keep k3 (fun g hg => .inr (by omega))
          have H3 := Lib.hid (And.intro K3 (And.intro rv3 (And.intro ra3 (And.intro hrow3.len hrow3.range))))
          clear hkey hf1 hf2 m3 k3 K3 hrow3 rv3 ra3
          have hn2 : (if (metF (unlikeN Z k) (.string S)).isSome then n else n + 1) ≤ k + 1 := by have := HK.out.1; split <;> omega
          generalize (if (metF (unlikeN Z k) (.string S)).isSome then n else n + 1) = n2 at *
          have HN2 := Lib.hid hn2
          clear hn2
          go_wp2_with fail
          refine PC.out.mono ?_
          rintro e w4 ⟨p4, c4, o4, rfl, R4, ho4, hb4⟩
          rw [HZ.out] at R4 ⊢
          obtain ⟨r4, hp4⟩ := rowOf_clone R4 H3.out.2.2.2.1 H3.out.2.2.2.2
          have hG3 : G ≤ w3.heap.size := by rw [← hgw]; exact H3.out.1.size
          have K4 := H3.out.1.trans (hb4.mono hG3)
          have kb4 := Keep.of_below (X := fun _ => False) hb4
          have rv4 := H3.out.2.1.keep kb4 (fun _ _ h => h)
          have ra4 := H3.out.2.2.1.keep kb4 (fun g hg => hg.elim)
          have m4 := M3.out.keep kb4 (fun h => h)
          have hGb : ∀ g, o4 = some g → w3.heap.size ≤ g := ho4
          have hG3' : G < w3.heap.size := M3.out.lt
          have ho3 : ∀ g, o = some g → g < w3.heap.size := fun g hg => H3.out.2.1.lt g hg
          have hnew : ∀ q, p4 = some q → G + 1 ≤ q.block ∧ o ≠ some q.block ∧ FreeAt w4 q.block := fun q hq => by
            have h1 := hp4 q hq
            have h2 := hGb _ h1
            exact ⟨by omega, fun e => by have := ho3 _ e; omega, R4.free _ h1⟩
          have ra5 := ra4.snoc r4 hnew
          obtain ⟨g5, c5, w5, run5, rv5, ho5, hk5⟩ := rowV_append1 (P := Try.prog) 24 24 i0 (.slice none 0 0) Try.underlying24 HI.out.1 HI.out.2.1 HI.out.2.2.1 HI.out.2.2.2 rfl rv4 (.slice p4 (Z k).length c4) rfl (by have := unlikeN_len Z k; unfold maxLen; omega) (by have := unlikeN_len Z k; omega)
          have hmv : some g5 = o ∨ ∃ g, some g5 = some g ∧ w4.heap.size ≤ g := by
            rcases ho5 with h | h
            · exact .inl h.symm
            · exact .inr ⟨g5, rfl, h⟩
          have ra6 := ra5.grow hk5 hmv
          have m5 := m4.keep hk5 (fun e => by have := HK.out.2.2.1 _ e; omega)
          have K5 := K4.trans (hk5.below (by rw [← hgw]; exact K4.size) (fun g hg => by have := HK.out.2.2.1 _ hg; omega))
          have hg5 : ∀ g, some g5 = some g → G < g := fun g hg => by
            cases hg
            rcases ho5 with h | h
            · exact HK.out.2.2.1 _ h
            · have := hb4.size; omega
          have e5 : (unlikeN Z k ++ [Z k]).length = (unlikeN Z k).length + 1 := by simp
          have H5 := Lib.hid (And.intro rv5 (And.intro hg5 (And.intro ra6 (And.intro m5 (And.intro K5 e5)))))
          obtain ⟨p8, c8, rfl, _⟩ := HK.out.2.1.form
          clear R4 r4 hp4 hG3 K4 kb4 rv4 ra4 m4 hGb hG3' ho3 hnew ra5 rv5 ho5 hk5 hmv ra6 m5 K5 hg5 e5 ho4 hb4
          generalize (Z k).length = zk at *
          generalize (unlikeN Z k).length = un at *
          go_wp2_with (at_builtin; refine wpl_append rfl _ _ 24 rfl rfl rfl run5 ?_)
          go_roundg (len - (k + 1))
          case measure => rw [HG.out]; omega
          case rel => exact ⟨k + 1, n2, _, some g5, hlt, rfl, rfl, HN2.out, by rw [HMR.out, H5.out.2.2.2.2.2]; exact H5.out.1, H5.out.2.1, by rw [HMR.out]; exact H5.out.2.2.1, H5.out.2.2.2.1, H5.out.2.2.2.2.1⟩
    · obtain rfl : k = len := by omega
      have HF : Hid (ListOf wr G u4 (unlikeN Z k)) := Lib.hid ⟨cs, o, HK.out.2.1, fun g hg => Nat.le_of_lt (HK.out.2.2.1 g hg), HK.out.2.2.2.1.1, fun i hi => by
        obtain ⟨A', C', h1, h2, h3⟩ := HK.out.2.2.2.1.2 i hi
        exact ⟨A', C', h1, h2, fun q hq => ⟨by have := (h3 q hq).1; omega, (h3 q hq).2⟩⟩⟩
      go_wp2
      go_ret
      exact ⟨⟨_, rfl, by rw [hgw]; exact HF.out⟩, by rw [hgw]; exact HK.out.2.2.2.2.2⟩
end Go.Proofs.Ytppcccocnmhbgaa
