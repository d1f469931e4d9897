import Derived.Test.YtbjbjgfjaopibaaDoorPu18
import Derived.Test.YtbjbjgfjaopibaaDoorPu15
import Derived.Test.YtbjbjgfjaopibaaDoorPu5
section
/- All of a journal, as a list of pairs. -/
namespace Go.Proofs.YtbjbjgfjaopibaaDoor
open Go Go.RowKit
set_option linter.unusedSimpArgs false
set_option linter.unusedVariables false
set_option maxRecDepth 100000

theorem LstAt.from {α : Type} {K : EKind α} {e : TypeId} {w : World} {G G' : Nat} {v : Value} {X : List α} (h : LstAt K e w G v X) (hg : G' ≤ G) : LstAt K e w G' v X := by
  obtain ⟨o, h1, h2, h3⟩ := h
  exact ⟨o, h1, fun g hg' => Nat.le_trans hg (h2 g hg'), fun x hx => K.mono (h3 x hx) (fun b hb => ⟨Nat.le_trans hg hb.1, hb.2⟩)⟩
set_option maxHeartbeats 3200000 in
theorem pcontents (j b p : Nat) (l : KV) (n : Nat) (hd : Bool) (N : Nat → Prop) (w : World) (hJ : JAt N w j b p l n hd) (hs : Srt l) (hk : ∀ q ∈ l, q.1.length ≤ 100 ∧ q.2.length ≤ 60000 ∧ Byt q.2) (hl : l.length ≤ 1000000000000) :
    Calls Tryd.prog 15 #[.pointer (some ⟨j, 0, none⟩)] w fun e w' => Below w.heap.size w w' ∧ ∃ (q : Option Addr) (c : Nat) (X : List PairD), e = .returned (.slice q X.length c) ∧ LstAt pairK 55 w' w.heap.size (.slice q X.length c) X ∧ X.map pairX = l := by
  have PK := Lib.hid (jkeys0 j b ⟨p, 0, none⟩ _ _ l N w hJ.1 hJ.2.1 hs (fun q hq => (hk q hq).1) hl)
  have HJ := Lib.hid (And.intro hJ (And.intro hs hk))
  clear hJ hs hk
  obtain ⟨ln, hln⟩ : ∃ ln, ln = l.length := ⟨_, rfl⟩
  rw [← hln] at PK hl
  have HLN := Lib.hid hln
  clear hln
  go_enter Tryd.func15, Tryd.ntmps15
  go_wp2_with fail
  refine PK.out.mono ?_
  rintro e w1 ⟨q, c, o, rfl, R, ho, hb1⟩
  have H1 := Lib.hid (And.intro R (And.intro ho hb1))
  clear R ho hb1
  go_wp2
  go_loopg [3, 11] ln (fun gh v i wx => ∃ (k : Nat) (X : List PairD), k ≤ ln ∧ i = .int .i64 (k : Int) ∧ gh = ln - k ∧ Hid (LstAt pairK 55 wx w1.heap.size v X ∧ X.map pairX = l.take k ∧ Below w1.heap.size w1 wx))
  case atStart => exact ⟨0, [], Nat.zero_le _, rfl, rfl, LstAt.nil _ _ _ _, rfl, Below.refl _ _⟩
  case round =>
    obtain ⟨k, X, hk, rfl, hg, HK⟩ := hrel
    have HG := Lib.hid hg
    clear hg
    by_cases hlt : k < ln
    · have hkl : k < l.length := by rw [← HLN.out]; exact hlt
      obtain ⟨g5, cap5, _, e5, _, _, _, hc5, _⟩ := H1.out.1.mem (by omega)
      cases e5
      have t0 : wr.cell? ⟨g5, k, none⟩ = some (.string (sK l[k].1)) := by
        have h := hc5 k (by omega)
        rw [List.getElem?_map, List.getElem?_eq_getElem hkl] at h
        exact (HK.out.2.2.cell (p := ⟨g5, k, none⟩) (cell_lt h)).trans h
      have hwr : Below w.heap.size w wr := H1.out.2.2.trans (HK.out.2.2.mono H1.out.2.2.size)
      have hm := List.getElem_mem hkl
      have hgk : getK l (bsK (sK l[k].1)) = some l[k].2 := getK_of_mem HJ.out.2.1 hm
      have J5 := HJ.out.1.more hwr
      have PG := jget j b ⟨p, 0, none⟩ _ _ l N (sK l[k].1) wr J5.1 J5.2.1 (by show l[k].1.toArray.size ≤ _; have := (HJ.out.2.2 _ hm).1; simp; omega) (by rw [hgk]; have := (HJ.out.2.2 _ hm).2.1; simp; omega)
      rw [hgk] at PG
      have PG := Lib.hid PG
      have hv3 : ∃ q3 c3, u3 = .slice q3 X.length c3 := by
        obtain ⟨o3, h3, _⟩ := HK.out.1
        obtain ⟨q3, c3, e3, _⟩ := h3.form
        exact ⟨q3, c3, e3⟩
      have HSK := Lib.hid hm
      generalize hks : sK l[k].1 = ks at *
      have HKS := Lib.hid hks
      clear hks hm hc5 J5 hgk
      go_wp2_with fail
      refine PG.out.mono ?_
      rintro e w5 ⟨q5, c5, o5, rfl, R5, ho5, hb5⟩
      obtain ⟨q3, c3, rfl⟩ := hv3
      have hfr := HSK.out
      simp only [Option.getD_some, Option.isSome_some]
      obtain ⟨z, hz⟩ : ∃ z, z = l[k].2.length := ⟨_, rfl⟩
      have R5' : Row w5 5 (.slice q5 l[k].2.length c5) l[k].2 o5 := R5
      rw [← hz]
      have H5 := Lib.hid (And.intro R5' (And.intro ho5 (And.intro hb5 hz)))
      clear R5 R5' ho5 hb5 hz PG
      generalize hxn : X.length = xn at *
      have HXN := Lib.hid hxn
      clear hxn
      go_upto_region 6 with fail
      have hzl : l[k].2.length ≤ 60000 := (HJ.out.2.2 _ hfr).2.1
      obtain ⟨rr, hrr⟩ := rowOf_clone (by have h := H5.out.1; exact h) (by omega) (HJ.out.2.2 _ hfr).2.2
      have hx5 : pairK.at' (fun b => wr.heap.size ≤ b ∧ b < w5.heap.size) w5 ⟨ks, ⟨q5, c5, l[k].2⟩⟩ := ⟨by rw [← HKS.out]; show l[k].1.toArray.size ≤ 140737488351232; have := (HJ.out.2.2 _ hfr).1; simp; omega, ⟨rr, by show l[k].2.length ≤ 140737488351232; omega⟩, fun q hq => ⟨H5.out.2.1 _ (hrr q hq), H5.out.1.lt _ (hrr q hq)⟩⟩
      have hXk : X.length = k := by have h1 := congrArg List.length HK.out.2.1; rw [List.length_map, List.length_take] at h1; have := HLN.out; omega
      have hXn : xn = k := HXN.out.symm.trans hXk
      obtain ⟨i1, z1, f1, f2, f3, f4, f5⟩ := info_ofJ pairInf
      have hL5 : LstAt pairK 55 wr w1.heap.size (.slice q3 xn c3) X := HK.out.1
      obtain ⟨q8, n8, v7, w7, hv8, run7, L7, k7⟩ := hL5.add 22 Tryd.underlying22 f1 f2 f3 f4 f5 (by decide) H5.out.2.2.1 HK.out.2.2.size hx5 (by rw [hXk]; unfold maxLen; omega) (by rw [hXk]; omega)
      clear hv8 q8 n8 hXk hXn
      change (Builtin.append_ #[22, 22] 22 #[.slice q3 xn c3, .slice (some ⟨w5.heap.size, 0, none⟩) 1 1]).run Tryd.prog (w5.alloc (.cells #[.string ks, .slice q5 l[k].2.length c5] 55)) = .ok v7 w7 at run7
      rw [← H5.out.2.2.2] at run7
      have H7 := Lib.hid (And.intro L7 k7)
      clear L7 k7 hL5 hx5 hrr rr f1 f2 f3 f4 f5
      go_wp2_with (at_builtin; refine wpl_append rfl _ _ 22 rfl rfl rfl run7 ?_)
      go_roundg (ln - (k + 1))
      case measure => rw [HG.out]; omega
      case rel =>
        refine ⟨k + 1, X ++ [⟨ks, ⟨q5, c5, l[k].2⟩⟩], hlt, by go_num, rfl, H7.out.1, ?_, ?_⟩
        · rw [List.map_append, HK.out.2.1, ← List.take_append_getElem hkl]
          congr 1
          show [(bsK ks, l[k].2)] = [l[k]]
          rw [← HKS.out]; rfl
        · exact (HK.out.2.2.trans (H5.out.2.2.1.mono HK.out.2.2.size)).trans H7.out.2
    · obtain rfl : k = ln := by omega
      obtain ⟨o3, h3, _⟩ := HK.out.1
      obtain ⟨q3, c3, rfl, _⟩ := h3.form
      have hXL : X.map pairX = l := by rw [HK.out.2.1, HLN.out, List.take_length]
      have HF := Lib.hid hXL
      clear hXL h3
      generalize hxn : X.length = xn at *
      have HXN := Lib.hid hxn
      clear hxn
      go_wp2
      go_ret
      have hL := HK.out.1.from H1.out.2.2.size
      rw [← HXN.out] at hL
      exact ⟨H1.out.2.2.trans (HK.out.2.2.mono H1.out.2.2.size), q3, c3, X, (by rw [HXN.out]; rfl), hL, HF.out⟩
end Go.Proofs.YtbjbjgfjaopibaaDoor
end

section
/- The tape's methods on a tape that the law itself made. -/
namespace Go.Proofs.YtbjbjgfjaopibaaDoor
open Go Go.RowKit
set_option linter.unusedSimpArgs false
set_option maxRecDepth 100000

/-- a tape that the call made, W being the world in which the call began -/
def Own (W w : World) (p : Nat) (xs : List Int) (sy ro fu : Int) : Prop :=
  ∃ o, TapeAt w p xs sy ro fu o ∧ W.heap.size ≤ p ∧ (∀ g, o = some g → W.heap.size ≤ g) ∧ Below W.heap.size W w
section
variable {W w w' : World} {p : Nat} {xs : List Int} {sy ro fu : Int}
theorem Own.below (h : Own W w p xs sy ro fu) : Below W.heap.size W w := by obtain ⟨o, _, _, _, h⟩ := h; exact h
theorem Own.more (h : Own W w p xs sy ro fu) (hb : Below w.heap.size w w') : Own W w' p xs sy ro fu := by
  obtain ⟨o, h1, h2, h3, h4⟩ := h
  exact ⟨o, h1.keep (Keep.of_below (X := fun _ => False) hb) (fun _ _ h => h), h2, h3, h4.trans (hb.mono h4.size)⟩
theorem foot_ge {o : Option Nat} (h2 : W.heap.size ≤ p) (h3 : ∀ g, o = some g → W.heap.size ≤ g) : ∀ k, foot p o k → W.heap.size ≤ k := by
  rintro k (rfl | hk)
  · exact h2
  · exact h3 k hk
theorem own_new (W w : World) (ro : Int) (hb : Below W.heap.size W w) (h0 : 0 ≤ ro) (h1 : ro ≤ 16777216) :
    Calls Tryd.prog 14 #[.int .i64 ro] w fun e w' => ∃ p, e = .returned (.tuple #[.pointer (some ⟨p, 0, none⟩), .int .i64 0]) ∧ Own W w' p [] 0 ro (-1) := by
  refine (tnew ro w h0 h1).mono ?_
  rintro e w1 ⟨p, o, rfl, ht, hp, ho, hb1⟩
  have := hb.size
  exact ⟨p, rfl, o, ht, by omega, fun g hg => by have := ho g hg; omega, hb.trans (hb1.mono hb.size)⟩
theorem own_synced (h : Own W w p xs sy ro fu) : Calls Tryd.prog 22 #[.pointer (some ⟨p, 0, none⟩)] w fun e w' => e = .returned (.int .i64 sy) ∧ w = w' := by
  obtain ⟨o, h1, h2, h3, h4⟩ := h
  exact tsynced p xs sy ro fu o w h1
theorem own_bytes (h : Own W w p xs sy ro fu) (hl : xs.length ≤ 140737488355328) :
    Calls Tryd.prog 17 #[.pointer (some ⟨p, 0, none⟩)] w fun e w' => ∃ q c, e = .returned (.slice q xs.length c) ∧ (∃ o', Row w' 5 (.slice q xs.length c) xs o' ∧ ∀ g, o' = some g → w.heap.size ≤ g) ∧ Own W w' p xs sy ro fu ∧ Below w.heap.size w w' := by
  have h' := h
  obtain ⟨o, h1, h2, h3, h4⟩ := h
  refine (tbytes p xs sy ro fu o w h1 hl).mono ?_
  rintro e w1 ⟨q, c, o', rfl, hr, ho, hb⟩
  exact ⟨q, c, rfl, ⟨o', hr, ho⟩, h'.more hb, hb⟩
theorem own_of {o : Option Nat} {ys : List Int} {sy' ro' fu' : Int} (h2 : W.heap.size ≤ p) (h3 : ∀ g, o = some g → W.heap.size ≤ g) (h4 : Below W.heap.size W w) (ht : TapeAt w' p ys sy' ro' fu' o) (hk : Keep (foot p o) w w') : Own W w' p ys sy' ro' fu' :=
  ⟨o, ht, h2, h3, h4.trans (hk.below h4.size (foot_ge h2 h3))⟩
theorem own_fuse (n : Int) (h : Own W w p xs sy ro fu) : Calls Tryd.prog 23 #[.pointer (some ⟨p, 0, none⟩), .int .i64 n] w fun e w' => e = .returned (.int .i64 (fuseE n)) ∧ Own W w' p xs sy ro (fuseN n fu) := by
  obtain ⟨o, h1, h2, h3, h4⟩ := h
  refine (tfuse p xs sy ro fu n o w h1).mono ?_
  rintro e w1 ⟨rfl, ht, hk⟩
  exact ⟨rfl, own_of h2 h3 h4 ht hk⟩
theorem own_room (n : Int) (h : Own W w p xs sy ro fu) : Calls Tryd.prog 16 #[.pointer (some ⟨p, 0, none⟩), .int .i64 n] w fun e w' => e = .returned (.int .i64 (roomE n)) ∧ Own W w' p xs sy (roomN n ro) fu := by
  obtain ⟨o, h1, h2, h3, h4⟩ := h
  refine (troom p xs sy ro fu n o w h1).mono ?_
  rintro e w1 ⟨rfl, ht, hk⟩
  exact ⟨rfl, own_of h2 h3 h4 ht hk⟩
theorem own_sync (h : Own W w p xs sy ro fu) (hf0 : -1 ≤ fu) (hf1 : fu ≤ 9223372036854775807) : Calls Tryd.prog 33 #[.pointer (some ⟨p, 0, none⟩)] w fun e w' => e = .returned (.int .i64 (burnE fu)) ∧ Own W w' p xs (syncN xs sy fu) ro (burn fu) := by
  obtain ⟨o, h1, h2, h3, h4⟩ := h
  refine (tsync p xs sy ro fu o w h1 hf0 hf1).mono ?_
  rintro e w1 ⟨rfl, ht, hk⟩
  exact ⟨rfl, own_of h2 h3 h4 ht hk⟩
theorem own_cut (n : Int) (h : Own W w p xs sy ro fu) (hl : xs.length ≤ 16777216) (hf0 : -1 ≤ fu) (hf1 : fu ≤ 9223372036854775807) :
    Calls Tryd.prog 42 #[.pointer (some ⟨p, 0, none⟩), .int .i64 n] w fun e w' => e = .returned (.int .i64 (cutE n xs.length fu)) ∧ Own W w' p (cutB xs n fu) (cutS xs sy n fu) ro (cutF xs.length n fu) := by
  obtain ⟨o, h1, h2, h3, h4⟩ := h
  refine (tcut p xs sy ro fu n o w h1 hl hf0 hf1).mono ?_
  rintro e w1 ⟨rfl, ht, hk⟩
  exact ⟨rfl, own_of h2 h3 h4 ht hk⟩
theorem own_crash (n : Int) (h : Own W w p xs sy ro fu) (hl : xs.length ≤ 16777216) (hs0 : 0 ≤ sy) (hs1 : sy ≤ xs.length) :
    Calls Tryd.prog 26 #[.pointer (some ⟨p, 0, none⟩), .int .i64 n] w fun e w' => e = .returned (.int .i64 0) ∧ Own W w' p (xs.take (crashN xs.length sy n)) (crashN xs.length sy n) ro (-1) := by
  obtain ⟨o, h1, h2, h3, h4⟩ := h
  refine (tcrash p xs sy ro fu n o w h1 hl hs0 hs1).mono ?_
  rintro e w1 ⟨rfl, ht, hk⟩
  exact ⟨rfl, own_of h2 h3 h4 ht hk⟩
theorem own_append_at {o : Option Nat} {ys : List Int} (q : Option Addr) (c : Nat) (h1 : TapeAt w p xs sy ro fu o) (h2 : W.heap.size ≤ p) (h3 : ∀ g, o = some g → W.heap.size ≤ g) (h4 : Below W.heap.size W w)
    (hy : Lib.BytesIn w q ys.length ys) (hqx : 0 < ys.length → ∀ a, q = some a → ¬ foot p o a.block)
    (hl : xs.length ≤ 16777216) (hyl : ys.length ≤ 9223372036854775807) (hr0 : 0 ≤ ro) (hr1 : ro ≤ 16777216) (hf0 : -1 ≤ fu) (hf1 : fu ≤ 9223372036854775807) :
    Calls Tryd.prog 30 #[.pointer (some ⟨p, 0, none⟩), .slice q ys.length c] w fun e w' => e = .returned (.int .i64 (appE xs.length ys.length ro fu)) ∧ Own W w' p (appB xs ys ro fu) sy ro (burn fu) := by
  refine (tappend p xs ys sy ro fu o q c w h1 hy hqx hl hyl hr0 hr1 hf0 hf1).mono ?_
  rintro e w1 ⟨rfl, ⟨o', ht, ho⟩, hk⟩
  have hs := h4.size
  refine ⟨rfl, o', ht, h2, ?_, h4.trans (hk.below hs (foot_ge h2 h3))⟩
  intro g hg
  rcases ho with rfl | ⟨g', hg', hle⟩
  · exact h3 g hg
  · rw [hg'] at hg; cases hg; omega
/-- bytes that came in -/
theorem own_append {ys : List Int} (q : Option Addr) (c : Nat) (h : Own W w p xs sy ro fu) (hy : Lib.BytesIn W q ys.length ys)
    (hl : xs.length ≤ 16777216) (hyl : ys.length ≤ 9223372036854775807) (hr0 : 0 ≤ ro) (hr1 : ro ≤ 16777216) (hf0 : -1 ≤ fu) (hf1 : fu ≤ 9223372036854775807) :
    Calls Tryd.prog 30 #[.pointer (some ⟨p, 0, none⟩), .slice q ys.length c] w fun e w' => e = .returned (.int .i64 (appE xs.length ys.length ro fu)) ∧ Own W w' p (appB xs ys ro fu) sy ro (burn fu) := by
  obtain ⟨o, h1, h2, h3, h4⟩ := h
  refine own_append_at q c h1 h2 h3 h4 (bytes_keep hy (Keep.of_below (X := fun _ => False) h4) (fun _ _ _ h => h)) (fun h0 a ha hf => ?_) hl hyl hr0 hr1 hf0 hf1
  have := foot_ge h2 h3 _ hf
  have := bytes_lt hy h0 a ha
  omega
end
theorem BytesIn.take {w : World} {q : Option Addr} {n m : Nat} {xs : List Int} (h : Lib.BytesIn w q n xs) (hm : m ≤ n) (hx : xs.length = n) : Lib.BytesIn w q (xs.take m).length (xs.take m) := fun h0 => by
  have hl : (xs.take m).length = m := by simp; omega
  rw [hl] at h0 ⊢
  obtain ⟨b, o, e, hc⟩ := h.at (by omega)
  refine ⟨b, o, e, fun i hi => ?_⟩
  rw [hc i (by omega)]
  congr 2
  simp [List.getD, hi]
end Go.Proofs.YtbjbjgfjaopibaaDoor
end

section
/- A journal with its tape in one word: what it says, plainly, and what each call makes of it. -/
namespace Go.Proofs.YtbjbjgfjaopibaaDoor
open Go Go.RowKit
set_option linter.unusedSimpArgs false
set_option linter.unusedVariables false
set_option maxRecDepth 100000

/-- what a journal and its tape hold -/
structure JS where
  xs : List Int
  sy : Int
  ro : Int
  fu : Int
  l : KV
  n : Nat
  hd : Bool
/-- keys and values of lawful lengths -/
def KvOk (l : KV) : Prop := ∀ q ∈ l, q.1.length ≤ 100 ∧ q.2.length ≤ 60000 ∧ Byt q.2
theorem KvOk.nil : KvOk [] := fun q h => by cases h
theorem KvOk.del {l : KV} (h : KvOk l) (k : Key) : KvOk (delK l k) := fun q hq => h q (delK_mem.1 hq).1
theorem KvOk.put {l : KV} (h : KvOk l) {k : Key} {v : List Int} (hk : k.length ≤ 100 ∧ v.length ≤ 60000 ∧ Byt v) : KvOk (putK l k v) := fun q hq => by
  rcases insK_mem.1 hq with rfl | hq
  · exact hk
  · exact h.del k q hq
theorem KvOk.do {l : KV} (h : KvOk l) {x : BatD} (hx : Fit x) : KvOk (doK l x) := by
  have h1 : ∀ (ps : List (Key × List Int)) (l : KV), KvOk l → (∀ p ∈ ps, p.1.length ≤ 100 ∧ p.2.length ≤ 60000 ∧ Byt p.2) → KvOk (ps.foldl (fun l p => putK l p.1 p.2) l) := fun ps => by
    induction ps with
    | nil => exact fun l h _ => h
    | cons p t ih => exact fun l h hp => ih _ (h.put (hp p (by simp))) (fun q hq => hp q (List.mem_cons_of_mem _ hq))
  have h2 : ∀ (ks : List Key) (l : KV), KvOk l → KvOk (ks.foldl delK l) := fun ks => by
    induction ks with
    | nil => exact fun l h => h
    | cons k t ih => exact fun l h => ih _ (h.del k)
  exact h2 _ _ (h1 _ _ h fun p hp => ⟨(finePut_iff.1 (hx.1.fineP p hp)).1.2, (finePut_iff.1 (hx.1.fineP p hp)).2, hx.2 p hp⟩)
theorem KvOk.doAll {l : KV} (h : KvOk l) {xs : List BatD} (hx : ∀ x ∈ xs, Fit x) : KvOk (doAll l xs) := by
  induction xs generalizing l with
  | nil => exact h
  | cons x t ih => exact ih (h.do (hx x (by simp))) (fun y hy => hx y (List.mem_cons_of_mem _ hy))
structure JSOk (s : JS) : Prop where
  srt : Srt s.l
  kv : KvOk s.l
  byt : Byt s.xs
  len : s.xs.length ≤ 16777216
  r0 : 0 ≤ s.ro
  r1 : s.ro ≤ 16777216
  f0 : -1 ≤ s.fu
  f1 : s.fu ≤ 9223372036854775807
  y0 : 0 ≤ s.sy
  y1 : s.sy ≤ s.xs.length
  ll : s.l.length ≤ s.xs.length
  nn : s.n ≤ s.xs.length
open Classical in
/-- what a batch comes to -/
noncomputable def comS (s : JS) (x : BatD) : Int × JS :=
  if ¬ CanB x then (1, s) else if s.hd = true then (210, s) else
  if appE s.xs.length (frmX x).length s.ro s.fu ≠ 0 then (appE s.xs.length (frmX x).length s.ro s.fu, { s with fu := burn s.fu, hd := true }) else
  if burnE (burn s.fu) ≠ 0 then (burnE (burn s.fu), { s with xs := s.xs ++ frmX x, fu := burn (burn s.fu), hd := true }) else
  (0, { s with xs := s.xs ++ frmX x, sy := ((s.xs ++ frmX x).length : Int), fu := burn (burn s.fu), l := doK s.l x, n := s.n + 1 })
theorem app_room {n m : Nat} {ro fu : Int} (h : appE n m ro fu = 0) : (n + m : Int) ≤ ro := by
  unfold appE at h
  by_cases h1 : fu = 0
  · rw [if_pos h1] at h; cases h
  · rw [if_neg h1] at h
    by_cases h2 : ro - n < m
    · rw [if_pos h2] at h; cases h
    · omega
theorem JSOk.com {s : JS} (h : JSOk s) {x : BatD} (hx : CanB x → Fit x) : JSOk (comS s x).2 := by
  have b1 := burn_rng h.f0 h.f1
  have b2 := burn_rng b1.1 b1.2
  unfold comS
  by_cases hc : CanB x
  · have fx := hx hc
    rw [if_neg (fun f => f hc)]
    by_cases hh : s.hd = true
    · rw [if_pos hh]; exact h
    · rw [if_neg hh]
      by_cases ha : appE s.xs.length (frmX x).length s.ro s.fu = 0
      · rw [if_neg (fun f => f ha)]
        have hr := app_room ha
        have h1 := h.r1
        have hl : (s.xs ++ frmX x).length ≤ 16777216 := by rw [List.length_append]; omega
        have e : (s.xs ++ frmX x).length = s.xs.length + (frmX x).length := List.length_append
        have hy1 := h.y1
        have hll := h.ll
        have hnn := h.nn
        have hp := frmX_pos x
        by_cases hb : burnE (burn s.fu) = 0
        · rw [if_neg (fun f => f hb)]
          exact ⟨h.srt.do x, h.kv.do fx, h.byt.app (frmX_byt fx), hl, h.r0, h.r1, b2.1, b2.2, by show (0 : Int) ≤ ((s.xs ++ frmX x).length : Int); omega, Int.le_refl _, by show (doK s.l x).length ≤ (s.xs ++ frmX x).length; have := doK_le h.srt x; have := puts_le x; omega, by show s.n + 1 ≤ (s.xs ++ frmX x).length; omega⟩
        · rw [if_pos hb]
          exact ⟨h.srt, h.kv, h.byt.app (frmX_byt fx), hl, h.r0, h.r1, b2.1, b2.2, h.y0, by show s.sy ≤ ((s.xs ++ frmX x).length : Int); omega, by show s.l.length ≤ (s.xs ++ frmX x).length; omega, by show s.n ≤ (s.xs ++ frmX x).length; omega⟩
      · rw [if_pos ha]
        exact ⟨h.srt, h.kv, h.byt, h.len, h.r0, h.r1, b1.1, b1.2, h.y0, h.y1, h.ll, h.nn⟩
  · rw [if_pos hc]; exact h
/-- a journal and its tape in memory of their own -/
structure JW (W w : World) (j b p : Nat) (o : Option Nat) (s : JS) : Prop where
  bel : Below W.heap.size W w
  glob : Glob W
  ok : JSOk s
  tape : TapeAt w p s.xs s.sy s.ro s.fu o
  jat : JAt (fun g => W.heap.size ≤ g ∧ ¬ foot p o g ∧ g ≠ j ∧ g ≠ b) w j b p s.l s.n s.hd
  own : W.heap.size ≤ j ∧ W.heap.size ≤ b
  ft : ∀ k, foot p o k → W.heap.size ≤ k ∧ k ≠ j ∧ k ≠ b
section
variable {W w w' : World} {j b p : Nat} {o : Option Nat} {s : JS}
theorem JW.more (h : JW W w j b p o s) (hb : Below w.heap.size w w') : JW W w' j b p o s :=
  ⟨h.bel.trans (hb.mono h.bel.size), h.glob, h.ok, h.tape.keep (Keep.of_below (X := fun _ => False) hb) (fun _ _ h => h), h.jat.more hb, h.own, h.ft⟩
theorem JW.globw (h : JW W w j b p o s) : Glob w := h.glob.below h.bel
theorem foot_new {o o' : Option Nat} {p : Nat} {w : World} (h : o' = o ∨ ∃ g, o' = some g ∧ w.heap.size ≤ g) {k : Nat} (hk : foot p o' k) : foot p o k ∨ w.heap.size ≤ k := by
  rcases hk with e | e
  · exact .inl (.inl e)
  · rcases h with h | ⟨g, h, hg⟩
    · exact .inl (.inr (h ▸ e))
    · rw [h] at e; cases e; exact .inr hg
theorem jw_commitN {X : BatchD} (h : JW W w j b p o s) (hX : BatOk w X) (hXN : BatIn (fun g => ¬ foot p o g ∧ g ≠ j ∧ g ≠ b) X) :
    Calls Tryd.prog 9 #[.pointer (some ⟨j, 0, none⟩), .agg (batCs X).toArray] w fun e w' =>
      ∃ o', e = .returned (.int .i64 (comS s (batX X)).1) ∧ JW W w' j b p o' (comS s (batX X)).2 ∧ Keep (fun k => foot p o k ∨ k = j ∨ k = b) w w' ∧ (o' = o ∨ ∃ g, o' = some g ∧ w.heap.size ≤ g) := by
  have hok := h.ok
  have hlt := h.jat.lt
  have C := jcommit p j b X s.xs s.sy s.ro s.fu o s.l s.n s.hd _ w h.globw h.tape h.jat hok.srt hok.len hok.r0 hok.r1 hok.f0 hok.f1 (by have := hok.ll; have := hok.len; omega) (by have := hok.nn; have := hok.len; omega) hX
    hXN (fun k hk => ⟨fun hn => hn.2.1 hk, (h.ft k hk).2⟩)
  refine C.mono ?_
  rintro e w1 ⟨kk, hcase⟩
  have hok' : JSOk (comS s (batX X)).2 := hok.com fun hc => ⟨hc, fun q hq => by
    obtain ⟨i, hi, rfl⟩ := List.mem_map.1 hq
    obtain ⟨_, _, _, _, _, hok⟩ := hX.1.2.2.2 i (List.mem_range.1 hi)
    exact hok.2.1.range⟩
  have hbel : Below W.heap.size W w1 := h.bel.trans (kk.below h.bel.size (fun k hk => by
    rcases hk with hk | rfl | rfl
    · exact (h.ft k hk).1
    · exact h.own.1
    · exact h.own.2))
  rcases hcase with ⟨hc, rfl, hb⟩ | ⟨hc, hh, rfl, hb⟩ | ⟨hc, hh, o', ho', hcase⟩
  · have e1 : comS s (batX X) = (1, s) := by unfold comS; rw [if_pos hc]
    rw [e1] at hok' ⊢
    exact ⟨o, rfl, h.more hb, kk, .inl rfl⟩
  · have e1 : comS s (batX X) = (210, s) := by unfold comS; rw [if_neg (fun f => f hc), if_pos hh]
    rw [e1] at hok' ⊢
    exact ⟨o, rfl, h.more hb, kk, .inl rfl⟩
  · have hft : ∀ k, foot p o' k → W.heap.size ≤ k ∧ k ≠ j ∧ k ≠ b := fun k hk => by
      rcases foot_new ho' hk with hk | hk
      · exact h.ft k hk
      · have := h.bel.size; exact ⟨by omega, by omega, by omega⟩
    have mn : ∀ (l : KV) (n : Nat) (hd : Bool), JAt (fun g => ((W.heap.size ≤ g ∧ ¬ foot p o g ∧ g ≠ j ∧ g ≠ b) ∨ w.heap.size ≤ g) ∧ ¬ foot p o' g ∧ g ≠ j ∧ g ≠ b) w1 j b p l n hd → JAt (fun g => W.heap.size ≤ g ∧ ¬ foot p o' g ∧ g ≠ j ∧ g ≠ b) w1 j b p l n hd := fun l n hd hj =>
      hj.mono (fun g hg _ => ⟨by have := h.bel.size; rcases hg.1 with h1 | h1; · exact h1.1
                                 · omega, hg.2⟩) (fun g hg => hg.2.2)
    rcases hcase with ⟨ha, rfl, ht, hj⟩ | ⟨ha, hb, rfl, ht, hj⟩ | ⟨ha, hb, rfl, ht, hj⟩
    · have e1 : comS s (batX X) = (appE s.xs.length (frmX (batX X)).length s.ro s.fu, { s with fu := burn s.fu, hd := true }) := by
        unfold comS; rw [if_neg (fun f => f hc), if_neg (by rw [hh]; decide), if_pos ha]
      rw [e1] at hok' ⊢
      exact ⟨o', rfl, ⟨hbel, h.glob, hok', ht, mn _ _ _ hj, h.own, hft⟩, kk, ho'⟩
    · have e1 : comS s (batX X) = (burnE (burn s.fu), { s with xs := s.xs ++ frmX (batX X), fu := burn (burn s.fu), hd := true }) := by
        unfold comS; rw [if_neg (fun f => f hc), if_neg (by rw [hh]; decide), if_neg (fun f => f ha), if_pos hb]
      rw [e1] at hok' ⊢
      exact ⟨o', rfl, ⟨hbel, h.glob, hok', ht, mn _ _ _ hj, h.own, hft⟩, kk, ho'⟩
    · have e1 : comS s (batX X) = (0, { s with xs := s.xs ++ frmX (batX X), sy := ((s.xs ++ frmX (batX X)).length : Int), fu := burn (burn s.fu), l := doK s.l (batX X), n := s.n + 1 }) := by
        unfold comS; rw [if_neg (fun f => f hc), if_neg (by rw [hh]; decide), if_neg (fun f => f ha), if_neg (fun f => f hb)]
      rw [e1] at hok' ⊢
      refine ⟨o', rfl, ⟨hbel, h.glob, hok', ht, ?_, h.own, hft⟩, kk, ho'⟩
      have hj' := mn _ _ _ hj
      rw [show s.hd = false from hh]
      exact hj'
theorem jw_commit {X : BatchD} (h : JW W w j b p o s) (hX : BatOk w X) (hXN : BatIn (fun g => g < W.heap.size) X) :
    Calls Tryd.prog 9 #[.pointer (some ⟨j, 0, none⟩), .agg (batCs X).toArray] w fun e w' =>
      ∃ o', e = .returned (.int .i64 (comS s (batX X)).1) ∧ JW W w' j b p o' (comS s (batX X)).2 ∧ Keep (fun k => foot p o k ∨ k = j ∨ k = b) w w' ∧ (o' = o ∨ ∃ g, o' = some g ∧ w.heap.size ≤ g) :=
  jw_commitN h hX (hXN.mono fun g hg => ⟨fun hf => by have := (h.ft g hf).1; omega, by have := h.own.1; omega, by have := h.own.2; omega⟩)
/-- a tape in memory of its own -/
structure TW (W w : World) (p : Nat) (o : Option Nat) (xs : List Int) (sy ro fu : Int) : Prop where
  bel : Below W.heap.size W w
  glob : Glob W
  byt : Byt xs
  len : xs.length ≤ 16777216
  r0 : 0 ≤ ro
  r1 : ro ≤ 16777216
  f0 : -1 ≤ fu
  f1 : fu ≤ 9223372036854775807
  y0 : 0 ≤ sy
  y1 : sy ≤ xs.length
  tape : TapeAt w p xs sy ro fu o
  ft : ∀ k, foot p o k → W.heap.size ≤ k
open Classical in
/-- what a tape opens to -/
noncomputable def opnS (xs : List Int) (sy ro fu : Int) : Int × JS :=
  if (opens xs).2 < xs.length ∧ fu = 0 then (150, ⟨xs, sy, ro, 0, [], 0, false⟩)
  else (0, ⟨xs.take (opens xs).2, if (opens xs).2 = xs.length then sy else ((opens xs).2 : Int), ro, if (opens xs).2 = xs.length then fu else burn fu, doAll [] (opens xs).1, (opens xs).1.length, false⟩)
theorem JW.tw (h : JW W w j b p o s) : TW W w p o s.xs s.sy s.ro s.fu :=
  ⟨h.bel, h.glob, h.ok.byt, h.ok.len, h.ok.r0, h.ok.r1, h.ok.f0, h.ok.f1, h.ok.y0, h.ok.y1, h.tape, fun k hk => (h.ft k hk).1⟩
theorem jw_open {xs : List Int} {sy ro fu : Int} (h : TW W w p o xs sy ro fu) :
    Calls Tryd.prog 13 #[.pointer (some ⟨p, 0, none⟩)] w fun e w' => Keep (foot p o) w w' ∧
      (((opnS xs sy ro fu).1 = 150 ∧ e = .returned (.tuple #[.pointer none, .int .i64 150]) ∧ TW W w' p o xs sy ro fu) ∨
       ((opnS xs sy ro fu).1 = 0 ∧ ∃ j b, e = .returned (.tuple #[.pointer (some ⟨j, 0, none⟩), .int .i64 0]) ∧ w.heap.size ≤ j ∧ w.heap.size ≤ b ∧ JAt (fun g => w.heap.size ≤ g ∧ g ≠ j ∧ g ≠ b) w' j b p (opnS xs sy ro fu).2.l (opnS xs sy ro fu).2.n (opnS xs sy ro fu).2.hd ∧ JW W w' j b p o (opnS xs sy ro fu).2)) := by
  have C := jopen p xs sy ro fu o w (h.glob.below h.bel) h.tape h.byt h.len h.f0 h.f1 (fun x hx => by have := h.ft x hx; have := h.glob.lt; omega)
  refine C.mono ?_
  rintro e w1 ⟨DB, r, hfit, hr, hno, rfl, kk, hcase⟩
  have hbel : Below W.heap.size W w1 := h.bel.trans (kk.below h.bel.size (fun k hk => h.ft k hk))
  have hop := opens_eq hfit hr hno
  have hlen : (DB.flatMap frmX ++ r).length = (DB.flatMap frmX).length + r.length := List.length_append
  have hlr : r = [] ↔ (DB.flatMap frmX).length = (DB.flatMap frmX ++ r).length := by
    rw [hlen]
    constructor
    · intro h1; rw [h1]; rfl
    · intro h1; exact List.length_eq_zero_iff.1 (by omega)
  have hlr2 : r ≠ [] ↔ (DB.flatMap frmX).length < (DB.flatMap frmX ++ r).length := by rw [ne_eq, hlr, hlen]; omega
  refine ⟨kk, ?_⟩
  rcases hcase with ⟨h1, h2, rfl, ht⟩ | ⟨h1, j, b, rfl, hj, hb, hJ, ht⟩
  · refine .inl ⟨?_, rfl, ⟨hbel, h.glob, h.byt, h.len, h.r0, h.r1, h.f0, h.f1, h.y0, h.y1, h2 ▸ ht, h.ft⟩⟩
    unfold opnS
    rw [hop, if_pos ⟨hlr2.1 h1, h2⟩]
  · have e1 : opnS (DB.flatMap frmX ++ r) sy ro fu = (0, ⟨DB.flatMap frmX, if r = [] then sy else ((DB.flatMap frmX).length : Int), ro, if r = [] then fu else burn fu, doAll [] DB, DB.length, false⟩) := by
      unfold opnS
      rw [hop, if_neg (fun f => h1 ⟨hlr2.2 f.1, f.2⟩), List.take_left' rfl]
      simp only [hlr]
    rw [e1]
    have b1 := burn_rng h.f0 h.f1
    have hl := h.len
    have hd := doAll_le DB [] Srt.nil
    refine .inr ⟨rfl, j, b, rfl, hj, hb, hJ, ⟨hbel, h.glob, ⟨Srt.nil.doAll DB, KvOk.nil.doAll hfit, h.byt.left, by show (DB.flatMap frmX).length ≤ _; omega, h.r0, h.r1, ?_, ?_, ?_, ?_, by simpa using hd, flat_frm_len DB⟩, ht, ?_, ?_, ?_⟩⟩
    · show -1 ≤ (if r = [] then fu else burn fu); split
      · exact h.f0
      · exact b1.1
    · show (if r = [] then fu else burn fu) ≤ _; split
      · exact h.f1
      · exact b1.2
    · show 0 ≤ (if r = [] then sy else ((DB.flatMap frmX).length : Int)); split
      · exact h.y0
      · omega
    · show (if r = [] then sy else ((DB.flatMap frmX).length : Int)) ≤ ((DB.flatMap frmX).length : Int); split
      · next h0 => have := h.y1; rw [← hlr.1 h0] at this; exact this
      · omega
    · have hs := h.bel.size
      have hfl := h.tape.lt
      exact hJ.mono (fun g hg _ => ⟨by omega, fun hf => by have := hfl g hf; omega, hg.2⟩) (fun g hg => hg.2.2)
    · have hs := h.bel.size; exact ⟨by omega, by omega⟩
    · intro k hk
      have hfl := h.tape.lt k hk
      exact ⟨h.ft k hk, by omega, by omega⟩
end
end Go.Proofs.YtbjbjgfjaopibaaDoor
end

section
/- samePairs: whether two lists of pairs are the same. -/
namespace Go.Proofs.YtbjbjgfjaopibaaDoor
open Go Go.RowKit
set_option linter.unusedSimpArgs false
set_option linter.unusedVariables false
set_option maxRecDepth 100000

theorem arr_oneJ {l : List Value} (h : ∀ u ∈ l, u.oneCell' = true) : l.toArray.all (·.oneCell') = true := by
  rw [Array.all_eq_true]; intro i hi
  exact h _ (by simp)
theorem cells_rangeJ {w : World} {b o : Nat} {cs : List Value} (h : CellsAt w b o cs) : w.rangeAt b o cs := fun j v hv => (h j (List.getElem?_eq_some_iff.1 hv).1).trans hv
theorem pairs_in {w : World} {G : Nat} {q : Option Addr} {c : Nat} {X : List PairD} (h : LstAt pairK 55 w G (.slice q X.length c) X) :
    ElemsIn w q X.length 2 pairCs PairOk (fun i => X.getD i ⟨⟨#[]⟩, ⟨none, 0, []⟩⟩) := fun i hi => by
  obtain ⟨o, h1, h2, h3⟩ := h
  obtain ⟨g, cap, ho, ev, _, _, hg, hc, _⟩ := h1.mem (by omega)
  cases ev
  have egd : X.getD i ⟨⟨#[]⟩, ⟨none, 0, []⟩⟩ = X[i] := by rw [List.getD_eq_getElem?_getD, List.getElem?_eq_getElem hi]; rfl
  show ∃ b o, _ ∧ (pairCs (X.getD i ⟨⟨#[]⟩, ⟨none, 0, []⟩⟩)).length = 2 ∧ CellsAt w b (o + i * 2) (pairCs (X.getD i ⟨⟨#[]⟩, ⟨none, 0, []⟩⟩)) ∧ PairOk w (X.getD i ⟨⟨#[]⟩, ⟨none, 0, []⟩⟩)
  rw [egd]
  refine ⟨g, 0, rfl, rfl, fun j hj => ?_, (h3 _ (List.getElem_mem hi)).1, (h3 _ (List.getElem_mem hi)).2.1⟩
  have hj' : j < pairK.k := hj
  show w.cell? ⟨g, 0 + i * pairK.k + j, none⟩ = (pairK.cs X[i])[j]?
  rw [Nat.zero_add, hc (i * pairK.k + j) (by
    have : (i + 1) * pairK.k ≤ X.length * pairK.k := Nat.mul_le_mul_right _ hi
    rw [Nat.add_mul] at this; omega), flat_get pairK X i j hi hj']
theorem map_eq_getD {X Y : List PairD} (h : X.map pairX = Y.map pairX) (i : Nat) (hi : i < X.length) : pairX (X.getD i ⟨⟨#[]⟩, ⟨none, 0, []⟩⟩) = pairX (Y.getD i ⟨⟨#[]⟩, ⟨none, 0, []⟩⟩) := by
  have hl : X.length = Y.length := by have := congrArg List.length h; simpa using this
  have h1 : (X.map pairX)[i]? = (Y.map pairX)[i]? := by rw [h]
  rw [List.getElem?_map, List.getElem?_map, List.getElem?_eq_getElem hi, List.getElem?_eq_getElem (hl ▸ hi)] at h1
  rw [List.getD_eq_getElem?_getD, List.getD_eq_getElem?_getD, List.getElem?_eq_getElem hi, List.getElem?_eq_getElem (hl ▸ hi)]
  exact Option.some.inj h1
set_option maxHeartbeats 3200000 in
/-- two pairs -/
theorem same_pair (x y : PairD) (w : World) (hx : PairOk w x) (hy : PairOk w y) :
    Calls Tryd.prog 45 #[.agg (pairCs x).toArray, .agg (pairCs y).toArray] w fun e w' => ∃ b, e = .returned (.bool b) ∧ (pairX x = pairX y → b = true) ∧ Below w.heap.size w w' := by
  obtain ⟨xk, ⟨xa, xc, xz⟩⟩ := x
  obtain ⟨yk, ⟨ya, yc, yz⟩⟩ := y
  change Calls Tryd.prog 45 #[.agg #[.string xk, .slice xa xz.length xc], .agg #[.string yk, .slice ya yz.length yc]] w _
  have L := two_blocks w #[.string xk, .slice xa xz.length xc] #[.string yk, .slice ya yz.length yc] 55 55
  have bx := hx.2.1.below L.2.2
  have by' := hy.2.1.below L.2.2
  have PE := Tryd.bytes_Equal_all xa ya xz.length xc yz.length yc xz yz ((w.alloc (.cells #[.string xk, .slice xa xz.length xc] 55)).alloc (.cells #[.string yk, .slice ya yz.length yc] 55)) rfl rfl bx.bytes by'.bytes
  have PE := Lib.hid PE
  have HE := Lib.hid (show pairX ⟨xk, ⟨xa, xc, xz⟩⟩ = pairX ⟨yk, ⟨ya, yc, yz⟩⟩ → xk = yk ∧ xz = yz from fun e => ⟨bsK_inj (congrArg Prod.fst e), congrArg Prod.snd e⟩)
  have HB := Lib.hid L.2.2
  clear hx hy L bx by'
  generalize pairX ⟨xk, ⟨xa, xc, xz⟩⟩ = px at *
  generalize pairX ⟨yk, ⟨ya, yc, yz⟩⟩ = py at *
  generalize heq : (Lib.bytesOf xz == Lib.bytesOf yz) = eb at *
  have HEB := Lib.hid heq
  clear heq
  generalize xz.length = n at *
  generalize yz.length = m at *
  by_cases hk : xk = yk
  · subst hk
    have HF := Lib.hid (show px = py → eb = true from fun e => by rw [← HEB.out]; rw [(HE.out e).2]; exact beq_self_eq_true _)
    go_enter Tryd.func45, Tryd.ntmps45
    go_wp2_with fail
    refine PE.out.mono ?_
    rintro e w' ⟨rfl, hw'⟩
    subst hw'
    go_wp2
    go_ret
    exact ⟨eb, rfl, HF.out, HB.out⟩
  · have hkk : (xk.toList == yk.toList) = false := beq_false_of_ne fun e => hk (by rw [ByteArray.toList_eq, ByteArray.toList_eq] at e; exact bsK_inj e)
    have HF := Lib.hid (show px = py → false = true from fun e => absurd (HE.out e).1 hk)
    go_enter Tryd.func45, Tryd.ntmps45
    go_wp2
    go_ret
    exact ⟨false, rfl, HF.out, HB.out⟩
set_option maxHeartbeats 6400000 in
/-- slices.EqualFunc at pairs -/
theorem eqf_pairs (a0 b0 : Option Addr) (n m ca cb : Nat) (X Y : Nat → PairD) (w : World) (hX : ElemsIn w a0 n 2 pairCs PairOk X) (hY : ElemsIn w b0 m 2 pairCs PairOk Y) (hn : n ≤ 1000000000000) (hm : m ≤ 1000000000000) :
    Calls Tryd.prog 44 #[.slice a0 n ca, .slice b0 m cb, .func (.func 45) #[] #[]] w fun e w' => ∃ b, e = .returned (.bool b) ∧ (n = m → (∀ i, i < n → pairX (X i) = pairX (Y i)) → b = true) ∧ Below w.heap.size w w' := by
  by_cases hnm : n = m
  · subst hnm
    have HR := Lib.hid (And.intro hX hY)
    clear hX hY
    have hne : ((n : Int) != (n : Int)) = false := bne_self_eq_false _
    obtain ⟨R, hR⟩ : ∃ R : Prop, R = ∀ i, i < n → pairX (X i) = pairX (Y i) := ⟨_, rfl⟩
    simp only [← hR, true_implies]
    have HRR := Lib.hid hR
    clear hR
    go_enter Tryd.func44, Tryd.ntmps44
    go_wp2
    go_loopg [17] n (fun gh i wx => ∃ k : Nat, k ≤ n ∧ i = .int .i64 (k : Int) ∧ gh = n - k ∧ Hid (Below w.heap.size w wx))
    case atStart => exact ⟨0, Nat.zero_le _, rfl, rfl, Below.refl _ _⟩
    case round =>
      obtain ⟨k, hk, rfl, hg, HB⟩ := hrel
      have HG := Lib.hid hg
      clear hg hne
      by_cases hlt : k < n
      · obtain ⟨b, o, rfl, hcl, hca, hok⟩ := HR.out.1 k hlt
        obtain ⟨b', o', rfl, hcl', hca', hok'⟩ := HR.out.2 k hlt
        obtain ⟨xk, hxk⟩ : ∃ xk, xk = X k := ⟨_, rfl⟩
        obtain ⟨yk, hyk⟩ : ∃ yk, yk = Y k := ⟨_, rfl⟩
        rw [← hxk] at hcl hca hok
        rw [← hyk] at hcl' hca' hok'
        have HXY := Lib.hid (And.intro hxk hyk)
        clear hxk hyk
        have hone1 : (pairCs xk).toArray.all (·.oneCell') = true := arr_oneJ (pairK.one xk)
        have hone2 : (pairCs yk).toArray.all (·.oneCell') = true := arr_oneJ (pairK.one yk)
        obtain ⟨IC, hIC⟩ : ∃ IC, IC = pairCs xk := ⟨_, rfl⟩
        obtain ⟨JC, hJC⟩ : ∃ JC, JC = pairCs yk := ⟨_, rfl⟩
        rw [← hIC] at hcl hca hone1
        rw [← hJC] at hcl' hca' hone2
        have HO := Lib.hid (And.intro hok hok')
        have HIC := Lib.hid (And.intro hIC hJC)
        clear hIC hJC hok hok'
        have hsa1 : IC.toArray.size = 2 := by rw [List.size_toArray]; exact hcl
        have hsa2 : JC.toArray.size = 2 := by rw [List.size_toArray]; exact hcl'
        have hr1 := cells_rangeJ (hca.below HB.out)
        have bz := Blk.new wr #[.string ⟨#[]⟩, .slice none 0 0] 55
        have kz := (Below.refl wr.heap.size wr).alloc (Nat.le_refl _) (.cells #[.string ⟨#[]⟩, .slice none 0 0] 55)
        have hinf1 : (Tryd.prog.info? 55).map (·.size) = some IC.toArray.size := by rw [hsa1]; kernel_rfl
        have hinf2 : (Tryd.prog.info? 55).map (·.size) = some JC.toArray.size := by rw [hsa2]; kernel_rfl
        have hinf1' : (Tryd.prog.info? 55).map (·.size) = some IC.length := by rw [hcl]; kernel_rfl
        have hinf2' : (Tryd.prog.info? 55).map (·.size) = some JC.length := by rw [hcl']; kernel_rfl
        have hsz1 : (#[.string ⟨#[]⟩, .slice none 0 0] : Array Value).size = IC.toArray.size := by rw [hsa1]; rfl
        have hsz2 : (#[.string ⟨#[]⟩, .slice none 0 0] : Array Value).size = JC.toArray.size := by rw [hsa2]; rfl
        have bx := bz.setAll IC.toArray hsz1
        have kx := below_setCells (B := wr.heap.size) (g := wr.heap.size) (Nat.le_refl _) IC.toArray.toList 0 (wr.alloc (.cells #[.string ⟨#[]⟩, .slice none 0 0] 55)) kz
        have hr2 := hca'.below HB.out
        clear hca kz hcl hcl' hsa1 hsa2
        go_upto_region 6 with (first | (refine wpList_load_mid rfl 55 (.tmp 20) rfl b (o + k * 2) rfl IC _ hr1 Tryd.underlying55 rfl hinf1' ?_) | (refine wpl_store rfl 55 (.tmp 8) (.tmp 21) rfl rfl rfl bz hsz1 hinf1 hone1 ?_))
        rw [List.toList_toArray] at kx bx
        change Blk ((wr.alloc (.cells #[.string ⟨#[]⟩, .slice none 0 0] 55)).setCells wr.heap.size 0 IC) wr.heap.size IC.toArray 55 at bx
        clear bz hr1
        generalize (wr.alloc (.cells #[.string ⟨#[]⟩, .slice none 0 0] 55)).setCells wr.heap.size 0 IC = w4 at *
        generalize hgx : wr.heap.size = gx at *
        have hb4 : Below wr.heap.size wr w4 := by rw [hgx]; exact kx
        have hlx := bx.lt
        have hr2 := cells_rangeJ (hr2.below hb4)
        have bz := Blk.new w4 #[.string ⟨#[]⟩, .slice none 0 0] 55
        have kz := (Below.refl w4.heap.size w4).alloc (Nat.le_refl _) (.cells #[.string ⟨#[]⟩, .slice none 0 0] 55)
        have by' := bz.setAll JC.toArray hsz2
        have ky := below_setCells (B := w4.heap.size) (g := w4.heap.size) (Nat.le_refl _) JC.toArray.toList 0 (w4.alloc (.cells #[.string ⟨#[]⟩, .slice none 0 0] 55)) kz
        have bx' := bx.beyond ky
        have HB4 := Lib.hid hb4
        clear kz hb4 kx
        go_upto_region 7 with (first | (refine wpList_load_mid rfl 55 (.tmp 24) rfl b' (o' + k * 2) rfl JC _ hr2 Tryd.underlying55 rfl hinf2' ?_) | (refine wpl_store rfl 55 (.tmp 9) (.tmp 25) rfl rfl rfl bz hsz2 hinf2 hone2 ?_))
        rw [List.toList_toArray] at ky by' bx'
        change Blk ((w4.alloc (.cells #[.string ⟨#[]⟩, .slice none 0 0] 55)).setCells w4.heap.size 0 JC) w4.heap.size JC.toArray 55 at by'
        change Blk ((w4.alloc (.cells #[.string ⟨#[]⟩, .slice none 0 0] 55)).setCells w4.heap.size 0 JC) gx IC.toArray 55 at bx'
        change Below w4.heap.size w4 ((w4.alloc (.cells #[.string ⟨#[]⟩, .slice none 0 0] 55)).setCells w4.heap.size 0 JC) at ky
        clear bz hr2 bx
        generalize (w4.alloc (.cells #[.string ⟨#[]⟩, .slice none 0 0] 55)).setCells w4.heap.size 0 JC = w5 at *
        have hb5 : Below wr.heap.size wr w5 := HB4.out.trans (ky.mono HB4.out.size)
        generalize hgy : w4.heap.size = gy at *
        have hbw5 := HB.out.trans (hb5.mono HB.out.size)
        have r1 := cells_rangeJ (w := w5) (b := gx) (o := 0) (cs := IC) (fun t ht => by rw [Nat.zero_add, bx'.cell, List.getElem?_toArray])
        have r2 := cells_rangeJ (w := w5) (b := gy) (o := 0) (cs := JC) (fun t ht => by rw [Nat.zero_add, by'.cell, List.getElem?_toArray])
        have PC : Calls Tryd.prog 45 #[.agg IC.toArray, .agg JC.toArray] w5 fun e w' => ∃ b, e = .returned (.bool b) ∧ (pairX xk = pairX yk → b = true) ∧ Below w5.heap.size w5 w' := by
          rw [HIC.out.1, HIC.out.2]
          exact same_pair xk yk w5 (HO.out.1.below hbw5) (HO.out.2.below hbw5)
        have PC := Lib.hid PC
        have HW5 := Lib.hid hbw5
        clear hb5 ky hbw5 bx' by'
        go_wp2_with (first | (refine wpList_load_mid rfl 55 (.tmp 8) rfl gx 0 rfl IC _ r1 Tryd.underlying55 rfl hinf1' ?_) | (refine wpList_load_mid rfl 55 (.tmp 9) rfl gy 0 rfl JC _ r2 Tryd.underlying55 rfl hinf2' ?_))
        refine PC.out.mono ?_
        rintro e w6 ⟨bb, rfl, hbb, hb6⟩
        have H6 := Lib.hid (HW5.out.trans (hb6.mono HW5.out.size))
        have HBB := Lib.hid hbb
        clear hb6 r1 r2 hbb
        cases bb
        · go_wp2
          go_ret
          refine ⟨false, rfl, fun hR => ?_, H6.out⟩
          rw [HRR.out] at hR
          have := hR k hlt
          rw [← HXY.out.1, ← HXY.out.2] at this
          exact HBB.out this
        · go_wp2
          go_roundg (n - (k + 1))
          case measure => rw [HG.out]; omega
          case rel => exact ⟨k + 1, hlt, rfl, rfl, H6.out⟩
      · obtain rfl : k = n := by omega
        go_wp2
        go_ret
        exact ⟨true, rfl, fun _ => rfl, HB.out⟩
  · have hne : ((n : Int) != (m : Int)) = true := by rw [bne_iff_ne]; omega
    have HF := Lib.hid hnm
    clear hX hY hnm
    go_enter Tryd.func44, Tryd.ntmps44
    go_wp2
    go_ret
    exact ⟨false, rfl, fun h => absurd h HF.out, Below.refl _ _⟩
/-- whether two lists of pairs are the same -/
theorem psame {w : World} {G1 G2 : Nat} {q1 q2 : Option Addr} {c1 c2 : Nat} {X Y : List PairD} (h1 : LstAt pairK 55 w G1 (.slice q1 X.length c1) X) (h2 : LstAt pairK 55 w G2 (.slice q2 Y.length c2) Y) (l1 : X.length ≤ 1000000000000) (l2 : Y.length ≤ 1000000000000) :
    Calls Tryd.prog 18 #[.slice q1 X.length c1, .slice q2 Y.length c2] w fun e w' => ∃ b, e = .returned (.bool b) ∧ (X.map pairX = Y.map pairX → b = true) ∧ Below w.heap.size w w' := by
  have P := eqf_pairs q1 q2 X.length Y.length c1 c2 _ _ w (pairs_in h1) (pairs_in h2) l1 l2
  have P' : Calls Tryd.prog 44 #[.slice q1 X.length c1, .slice q2 Y.length c2, .func (.func 45) #[] #[]] w fun e w' => ∃ b, e = .returned (.bool b) ∧ (X.map pairX = Y.map pairX → b = true) ∧ Below w.heap.size w w' :=
    P.mono fun e w' ⟨b, he, hb, hbel⟩ => ⟨b, he, fun h => hb (by have := congrArg List.length h; simpa using this) (fun i hi => map_eq_getD h i hi), hbel⟩
  have PP := Lib.hid P'
  clear P P' h1 h2 l1 l2
  obtain ⟨R, hR⟩ : ∃ R : Prop, R = (X.map pairX = Y.map pairX) := ⟨_, rfl⟩
  rw [← hR] at PP ⊢
  clear hR
  generalize X.length = n at *
  generalize Y.length = m at *
  go_enter Tryd.func18, Tryd.ntmps18
  go_wp2_with fail
  refine PP.out.mono ?_
  rintro e w1 ⟨b, rfl, hb, hbel⟩
  have HB := Lib.hid (And.intro hb hbel)
  clear hb hbel
  go_wp2
  go_ret
  exact ⟨b, rfl, HB.out⟩
end Go.Proofs.YtbjbjgfjaopibaaDoor
end
