import Derived.Test.YtbjbjgfjaopibaaDoorCr13
import Derived.Test.YtbjbjgfjaopibaaDoorCr15
import Derived.Test.YtbjbjgfjaopibaaDoorCr4
section
/- The tape's methods on a tape that the law itself made. -/
namespace Go.Proofs.YtbjbjgfjaopibaaDoor
open Go Go.RowKit
set_option linter.unusedSimpArgs false
set_option maxRecDepth 100000

/-- a tape that the call made, W being the world in which the call began -/
def Own (W w : World) (p : Nat) (xs : List Int) (sy ro fu : Int) : Prop :=
  ∃ o, TapeAt w p xs sy ro fu o ∧ W.heap.size ≤ p ∧ (∀ g, o = some g → W.heap.size ≤ g) ∧ Below W.heap.size W w
section
variable {W w w' : World} {p : Nat} {xs : List Int} {sy ro fu : Int}
theorem Own.below (h : Own W w p xs sy ro fu) : Below W.heap.size W w := by obtain ⟨o, _, _, _, h⟩ := h; exact h
theorem Own.more (h : Own W w p xs sy ro fu) (hb : Below w.heap.size w w') : Own W w' p xs sy ro fu := by
  obtain ⟨o, h1, h2, h3, h4⟩ := h
  exact ⟨o, h1.keep (Keep.of_below (X := fun _ => False) hb) (fun _ _ h => h), h2, h3, h4.trans (hb.mono h4.size)⟩
theorem foot_ge {o : Option Nat} (h2 : W.heap.size ≤ p) (h3 : ∀ g, o = some g → W.heap.size ≤ g) : ∀ k, foot p o k → W.heap.size ≤ k := by
  rintro k (rfl | hk)
  · exact h2
  · exact h3 k hk
theorem own_new (W w : World) (ro : Int) (hb : Below W.heap.size W w) (h0 : 0 ≤ ro) (h1 : ro ≤ 16777216) :
    Calls Tryd.prog 14 #[.int .i64 ro] w fun e w' => ∃ p, e = .returned (.tuple #[.pointer (some ⟨p, 0, none⟩), .int .i64 0]) ∧ Own W w' p [] 0 ro (-1) := by
  refine (tnew ro w h0 h1).mono ?_
  rintro e w1 ⟨p, o, rfl, ht, hp, ho, hb1⟩
  have := hb.size
  exact ⟨p, rfl, o, ht, by omega, fun g hg => by have := ho g hg; omega, hb.trans (hb1.mono hb.size)⟩
theorem own_synced (h : Own W w p xs sy ro fu) : Calls Tryd.prog 22 #[.pointer (some ⟨p, 0, none⟩)] w fun e w' => e = .returned (.int .i64 sy) ∧ w = w' := by
  obtain ⟨o, h1, h2, h3, h4⟩ := h
  exact tsynced p xs sy ro fu o w h1
theorem own_bytes (h : Own W w p xs sy ro fu) (hl : xs.length ≤ 140737488355328) :
    Calls Tryd.prog 17 #[.pointer (some ⟨p, 0, none⟩)] w fun e w' => ∃ q c, e = .returned (.slice q xs.length c) ∧ (∃ o', Row w' 5 (.slice q xs.length c) xs o' ∧ ∀ g, o' = some g → w.heap.size ≤ g) ∧ Own W w' p xs sy ro fu ∧ Below w.heap.size w w' := by
  have h' := h
  obtain ⟨o, h1, h2, h3, h4⟩ := h
  refine (tbytes p xs sy ro fu o w h1 hl).mono ?_
  rintro e w1 ⟨q, c, o', rfl, hr, ho, hb⟩
  exact ⟨q, c, rfl, ⟨o', hr, ho⟩, h'.more hb, hb⟩
theorem own_of {o : Option Nat} {ys : List Int} {sy' ro' fu' : Int} (h2 : W.heap.size ≤ p) (h3 : ∀ g, o = some g → W.heap.size ≤ g) (h4 : Below W.heap.size W w) (ht : TapeAt w' p ys sy' ro' fu' o) (hk : Keep (foot p o) w w') : Own W w' p ys sy' ro' fu' :=
  ⟨o, ht, h2, h3, h4.trans (hk.below h4.size (foot_ge h2 h3))⟩
theorem own_fuse (n : Int) (h : Own W w p xs sy ro fu) : Calls Tryd.prog 23 #[.pointer (some ⟨p, 0, none⟩), .int .i64 n] w fun e w' => e = .returned (.int .i64 (fuseE n)) ∧ Own W w' p xs sy ro (fuseN n fu) := by
  obtain ⟨o, h1, h2, h3, h4⟩ := h
  refine (tfuse p xs sy ro fu n o w h1).mono ?_
  rintro e w1 ⟨rfl, ht, hk⟩
  exact ⟨rfl, own_of h2 h3 h4 ht hk⟩
theorem own_room (n : Int) (h : Own W w p xs sy ro fu) : Calls Tryd.prog 16 #[.pointer (some ⟨p, 0, none⟩), .int .i64 n] w fun e w' => e = .returned (.int .i64 (roomE n)) ∧ Own W w' p xs sy (roomN n ro) fu := by
  obtain ⟨o, h1, h2, h3, h4⟩ := h
  refine (troom p xs sy ro fu n o w h1).mono ?_
  rintro e w1 ⟨rfl, ht, hk⟩
  exact ⟨rfl, own_of h2 h3 h4 ht hk⟩
theorem own_sync (h : Own W w p xs sy ro fu) (hf0 : -1 ≤ fu) (hf1 : fu ≤ 9223372036854775807) : Calls Tryd.prog 33 #[.pointer (some ⟨p, 0, none⟩)] w fun e w' => e = .returned (.int .i64 (burnE fu)) ∧ Own W w' p xs (syncN xs sy fu) ro (burn fu) := by
  obtain ⟨o, h1, h2, h3, h4⟩ := h
  refine (tsync p xs sy ro fu o w h1 hf0 hf1).mono ?_
  rintro e w1 ⟨rfl, ht, hk⟩
  exact ⟨rfl, own_of h2 h3 h4 ht hk⟩
theorem own_cut (n : Int) (h : Own W w p xs sy ro fu) (hl : xs.length ≤ 16777216) (hf0 : -1 ≤ fu) (hf1 : fu ≤ 9223372036854775807) :
    Calls Tryd.prog 42 #[.pointer (some ⟨p, 0, none⟩), .int .i64 n] w fun e w' => e = .returned (.int .i64 (cutE n xs.length fu)) ∧ Own W w' p (cutB xs n fu) (cutS xs sy n fu) ro (cutF xs.length n fu) := by
  obtain ⟨o, h1, h2, h3, h4⟩ := h
  refine (tcut p xs sy ro fu n o w h1 hl hf0 hf1).mono ?_
  rintro e w1 ⟨rfl, ht, hk⟩
  exact ⟨rfl, own_of h2 h3 h4 ht hk⟩
theorem own_crash (n : Int) (h : Own W w p xs sy ro fu) (hl : xs.length ≤ 16777216) (hs0 : 0 ≤ sy) (hs1 : sy ≤ xs.length) :
    Calls Tryd.prog 26 #[.pointer (some ⟨p, 0, none⟩), .int .i64 n] w fun e w' => e = .returned (.int .i64 0) ∧ Own W w' p (xs.take (crashN xs.length sy n)) (crashN xs.length sy n) ro (-1) := by
  obtain ⟨o, h1, h2, h3, h4⟩ := h
  refine (tcrash p xs sy ro fu n o w h1 hl hs0 hs1).mono ?_
  rintro e w1 ⟨rfl, ht, hk⟩
  exact ⟨rfl, own_of h2 h3 h4 ht hk⟩
theorem own_append_at {o : Option Nat} {ys : List Int} (q : Option Addr) (c : Nat) (h1 : TapeAt w p xs sy ro fu o) (h2 : W.heap.size ≤ p) (h3 : ∀ g, o = some g → W.heap.size ≤ g) (h4 : Below W.heap.size W w)
    (hy : Lib.BytesIn w q ys.length ys) (hqx : 0 < ys.length → ∀ a, q = some a → ¬ foot p o a.block)
    (hl : xs.length ≤ 16777216) (hyl : ys.length ≤ 9223372036854775807) (hr0 : 0 ≤ ro) (hr1 : ro ≤ 16777216) (hf0 : -1 ≤ fu) (hf1 : fu ≤ 9223372036854775807) :
    Calls Tryd.prog 30 #[.pointer (some ⟨p, 0, none⟩), .slice q ys.length c] w fun e w' => e = .returned (.int .i64 (appE xs.length ys.length ro fu)) ∧ Own W w' p (appB xs ys ro fu) sy ro (burn fu) := by
  refine (tappend p xs ys sy ro fu o q c w h1 hy hqx hl hyl hr0 hr1 hf0 hf1).mono ?_
  rintro e w1 ⟨rfl, ⟨o', ht, ho⟩, hk⟩
  have hs := h4.size
  refine ⟨rfl, o', ht, h2, ?_, h4.trans (hk.below hs (foot_ge h2 h3))⟩
  intro g hg
  rcases ho with rfl | ⟨g', hg', hle⟩
  · exact h3 g hg
  · rw [hg'] at hg; cases hg; omega
/-- bytes that came in -/
theorem own_append {ys : List Int} (q : Option Addr) (c : Nat) (h : Own W w p xs sy ro fu) (hy : Lib.BytesIn W q ys.length ys)
    (hl : xs.length ≤ 16777216) (hyl : ys.length ≤ 9223372036854775807) (hr0 : 0 ≤ ro) (hr1 : ro ≤ 16777216) (hf0 : -1 ≤ fu) (hf1 : fu ≤ 9223372036854775807) :
    Calls Tryd.prog 30 #[.pointer (some ⟨p, 0, none⟩), .slice q ys.length c] w fun e w' => e = .returned (.int .i64 (appE xs.length ys.length ro fu)) ∧ Own W w' p (appB xs ys ro fu) sy ro (burn fu) := by
  obtain ⟨o, h1, h2, h3, h4⟩ := h
  refine own_append_at q c h1 h2 h3 h4 (bytes_keep hy (Keep.of_below (X := fun _ => False) h4) (fun _ _ _ h => h)) (fun h0 a ha hf => ?_) hl hyl hr0 hr1 hf0 hf1
  have := foot_ge h2 h3 _ hf
  have := bytes_lt hy h0 a ha
  omega
end
theorem BytesIn.take {w : World} {q : Option Addr} {n m : Nat} {xs : List Int} (h : Lib.BytesIn w q n xs) (hm : m ≤ n) (hx : xs.length = n) : Lib.BytesIn w q (xs.take m).length (xs.take m) := fun h0 => by
  have hl : (xs.take m).length = m := by simp; omega
  rw [hl] at h0 ⊢
  obtain ⟨b, o, e, hc⟩ := h.at (by omega)
  refine ⟨b, o, e, fun i hi => ?_⟩
  rw [hc i (by omega)]
  congr 2
  simp [List.getD, hi]
end Go.Proofs.YtbjbjgfjaopibaaDoor
end

section
/- A journal with its tape in one word: what it says, plainly, and what each call makes of it. -/
namespace Go.Proofs.YtbjbjgfjaopibaaDoor
open Go Go.RowKit
set_option linter.unusedSimpArgs false
set_option linter.unusedVariables false
set_option maxRecDepth 100000

/-- what a journal and its tape hold -/
structure JS where
  xs : List Int
  sy : Int
  ro : Int
  fu : Int
  l : KV
  n : Nat
  hd : Bool
/-- keys and values of lawful lengths -/
def KvOk (l : KV) : Prop := ∀ q ∈ l, q.1.length ≤ 100 ∧ q.2.length ≤ 60000 ∧ Byt q.2
theorem KvOk.nil : KvOk [] := fun q h => by cases h
theorem KvOk.del {l : KV} (h : KvOk l) (k : Key) : KvOk (delK l k) := fun q hq => h q (delK_mem.1 hq).1
theorem KvOk.put {l : KV} (h : KvOk l) {k : Key} {v : List Int} (hk : k.length ≤ 100 ∧ v.length ≤ 60000 ∧ Byt v) : KvOk (putK l k v) := fun q hq => by
  rcases insK_mem.1 hq with rfl | hq
  · exact hk
  · exact h.del k q hq
theorem KvOk.do {l : KV} (h : KvOk l) {x : BatD} (hx : Fit x) : KvOk (doK l x) := by
  have h1 : ∀ (ps : List (Key × List Int)) (l : KV), KvOk l → (∀ p ∈ ps, p.1.length ≤ 100 ∧ p.2.length ≤ 60000 ∧ Byt p.2) → KvOk (ps.foldl (fun l p => putK l p.1 p.2) l) := fun ps => by
    induction ps with
    | nil => exact fun l h _ => h
    | cons p t ih => exact fun l h hp => ih _ (h.put (hp p (by simp))) (fun q hq => hp q (List.mem_cons_of_mem _ hq))
  have h2 : ∀ (ks : List Key) (l : KV), KvOk l → KvOk (ks.foldl delK l) := fun ks => by
    induction ks with
    | nil => exact fun l h => h
    | cons k t ih => exact fun l h => ih _ (h.del k)
  exact h2 _ _ (h1 _ _ h fun p hp => ⟨(finePut_iff.1 (hx.1.fineP p hp)).1.2, (finePut_iff.1 (hx.1.fineP p hp)).2, hx.2 p hp⟩)
theorem KvOk.doAll {l : KV} (h : KvOk l) {xs : List BatD} (hx : ∀ x ∈ xs, Fit x) : KvOk (doAll l xs) := by
  induction xs generalizing l with
  | nil => exact h
  | cons x t ih => exact ih (h.do (hx x (by simp))) (fun y hy => hx y (List.mem_cons_of_mem _ hy))
structure JSOk (s : JS) : Prop where
  srt : Srt s.l
  kv : KvOk s.l
  byt : Byt s.xs
  len : s.xs.length ≤ 16777216
  r0 : 0 ≤ s.ro
  r1 : s.ro ≤ 16777216
  f0 : -1 ≤ s.fu
  f1 : s.fu ≤ 9223372036854775807
  y0 : 0 ≤ s.sy
  y1 : s.sy ≤ s.xs.length
  ll : s.l.length ≤ s.xs.length
  nn : s.n ≤ s.xs.length
open Classical in
/-- what a batch comes to -/
noncomputable def comS (s : JS) (x : BatD) : Int × JS :=
  if ¬ CanB x then (1, s) else if s.hd = true then (210, s) else
  if appE s.xs.length (frmX x).length s.ro s.fu ≠ 0 then (appE s.xs.length (frmX x).length s.ro s.fu, { s with fu := burn s.fu, hd := true }) else
  if burnE (burn s.fu) ≠ 0 then (burnE (burn s.fu), { s with xs := s.xs ++ frmX x, fu := burn (burn s.fu), hd := true }) else
  (0, { s with xs := s.xs ++ frmX x, sy := ((s.xs ++ frmX x).length : Int), fu := burn (burn s.fu), l := doK s.l x, n := s.n + 1 })
theorem app_room {n m : Nat} {ro fu : Int} (h : appE n m ro fu = 0) : (n + m : Int) ≤ ro := by
  unfold appE at h
  by_cases h1 : fu = 0
  · rw [if_pos h1] at h; cases h
  · rw [if_neg h1] at h
    by_cases h2 : ro - n < m
    · rw [if_pos h2] at h; cases h
    · omega
theorem JSOk.com {s : JS} (h : JSOk s) {x : BatD} (hx : CanB x → Fit x) : JSOk (comS s x).2 := by
  have b1 := burn_rng h.f0 h.f1
  have b2 := burn_rng b1.1 b1.2
  unfold comS
  by_cases hc : CanB x
  · have fx := hx hc
    rw [if_neg (fun f => f hc)]
    by_cases hh : s.hd = true
    · rw [if_pos hh]; exact h
    · rw [if_neg hh]
      by_cases ha : appE s.xs.length (frmX x).length s.ro s.fu = 0
      · rw [if_neg (fun f => f ha)]
        have hr := app_room ha
        have h1 := h.r1
        have hl : (s.xs ++ frmX x).length ≤ 16777216 := by rw [List.length_append]; omega
        have e : (s.xs ++ frmX x).length = s.xs.length + (frmX x).length := List.length_append
        have hy1 := h.y1
        have hll := h.ll
        have hnn := h.nn
        have hp := frmX_pos x
        by_cases hb : burnE (burn s.fu) = 0
        · rw [if_neg (fun f => f hb)]
          exact ⟨h.srt.do x, h.kv.do fx, h.byt.app (frmX_byt fx), hl, h.r0, h.r1, b2.1, b2.2, by show (0 : Int) ≤ ((s.xs ++ frmX x).length : Int); omega, Int.le_refl _, by show (doK s.l x).length ≤ (s.xs ++ frmX x).length; have := doK_le h.srt x; have := puts_le x; omega, by show s.n + 1 ≤ (s.xs ++ frmX x).length; omega⟩
        · rw [if_pos hb]
          exact ⟨h.srt, h.kv, h.byt.app (frmX_byt fx), hl, h.r0, h.r1, b2.1, b2.2, h.y0, by show s.sy ≤ ((s.xs ++ frmX x).length : Int); omega, by show s.l.length ≤ (s.xs ++ frmX x).length; omega, by show s.n ≤ (s.xs ++ frmX x).length; omega⟩
      · rw [if_pos ha]
        exact ⟨h.srt, h.kv, h.byt, h.len, h.r0, h.r1, b1.1, b1.2, h.y0, h.y1, h.ll, h.nn⟩
  · rw [if_pos hc]; exact h
/-- a journal and its tape in memory of their own -/
structure JW (W w : World) (j b p : Nat) (o : Option Nat) (s : JS) : Prop where
  bel : Below W.heap.size W w
  glob : Glob W
  ok : JSOk s
  tape : TapeAt w p s.xs s.sy s.ro s.fu o
  jat : JAt (fun g => W.heap.size ≤ g ∧ ¬ foot p o g ∧ g ≠ j ∧ g ≠ b) w j b p s.l s.n s.hd
  own : W.heap.size ≤ j ∧ W.heap.size ≤ b
  ft : ∀ k, foot p o k → W.heap.size ≤ k ∧ k ≠ j ∧ k ≠ b
section
variable {W w w' : World} {j b p : Nat} {o : Option Nat} {s : JS}
theorem JW.more (h : JW W w j b p o s) (hb : Below w.heap.size w w') : JW W w' j b p o s :=
  ⟨h.bel.trans (hb.mono h.bel.size), h.glob, h.ok, h.tape.keep (Keep.of_below (X := fun _ => False) hb) (fun _ _ h => h), h.jat.more hb, h.own, h.ft⟩
theorem JW.globw (h : JW W w j b p o s) : Glob w := h.glob.below h.bel
theorem foot_new {o o' : Option Nat} {p : Nat} {w : World} (h : o' = o ∨ ∃ g, o' = some g ∧ w.heap.size ≤ g) {k : Nat} (hk : foot p o' k) : foot p o k ∨ w.heap.size ≤ k := by
  rcases hk with e | e
  · exact .inl (.inl e)
  · rcases h with h | ⟨g, h, hg⟩
    · exact .inl (.inr (h ▸ e))
    · rw [h] at e; cases e; exact .inr hg
theorem jw_commitN {X : BatchD} (h : JW W w j b p o s) (hX : BatOk w X) (hXN : BatIn (fun g => ¬ foot p o g ∧ g ≠ j ∧ g ≠ b) X) :
    Calls Tryd.prog 9 #[.pointer (some ⟨j, 0, none⟩), .agg (batCs X).toArray] w fun e w' =>
      ∃ o', e = .returned (.int .i64 (comS s (batX X)).1) ∧ JW W w' j b p o' (comS s (batX X)).2 ∧ Keep (fun k => foot p o k ∨ k = j ∨ k = b) w w' ∧ (o' = o ∨ ∃ g, o' = some g ∧ w.heap.size ≤ g) := by
  have hok := h.ok
  have hlt := h.jat.lt
  have C := jcommit p j b X s.xs s.sy s.ro s.fu o s.l s.n s.hd _ w h.globw h.tape h.jat hok.srt hok.len hok.r0 hok.r1 hok.f0 hok.f1 (by have := hok.ll; have := hok.len; omega) (by have := hok.nn; have := hok.len; omega) hX
    hXN (fun k hk => ⟨fun hn => hn.2.1 hk, (h.ft k hk).2⟩)
  refine C.mono ?_
  rintro e w1 ⟨kk, hcase⟩
  have hok' : JSOk (comS s (batX X)).2 := hok.com fun hc => ⟨hc, fun q hq => by
    obtain ⟨i, hi, rfl⟩ := List.mem_map.1 hq
    obtain ⟨_, _, _, _, _, hok⟩ := hX.1.2.2.2 i (List.mem_range.1 hi)
    exact hok.2.1.range⟩
  have hbel : Below W.heap.size W w1 := h.bel.trans (kk.below h.bel.size (fun k hk => by
    rcases hk with hk | rfl | rfl
    · exact (h.ft k hk).1
    · exact h.own.1
    · exact h.own.2))
  rcases hcase with ⟨hc, rfl, hb⟩ | ⟨hc, hh, rfl, hb⟩ | ⟨hc, hh, o', ho', hcase⟩
  · have e1 : comS s (batX X) = (1, s) := by unfold comS; rw [if_pos hc]
    rw [e1] at hok' ⊢
    exact ⟨o, rfl, h.more hb, kk, .inl rfl⟩
  · have e1 : comS s (batX X) = (210, s) := by unfold comS; rw [if_neg (fun f => f hc), if_pos hh]
    rw [e1] at hok' ⊢
    exact ⟨o, rfl, h.more hb, kk, .inl rfl⟩
  · have hft : ∀ k, foot p o' k → W.heap.size ≤ k ∧ k ≠ j ∧ k ≠ b := fun k hk => by
      rcases foot_new ho' hk with hk | hk
      · exact h.ft k hk
      · have := h.bel.size; exact ⟨by omega, by omega, by omega⟩
    have mn : ∀ (l : KV) (n : Nat) (hd : Bool), JAt (fun g => ((W.heap.size ≤ g ∧ ¬ foot p o g ∧ g ≠ j ∧ g ≠ b) ∨ w.heap.size ≤ g) ∧ ¬ foot p o' g ∧ g ≠ j ∧ g ≠ b) w1 j b p l n hd → JAt (fun g => W.heap.size ≤ g ∧ ¬ foot p o' g ∧ g ≠ j ∧ g ≠ b) w1 j b p l n hd := fun l n hd hj =>
      hj.mono (fun g hg _ => ⟨by have := h.bel.size; rcases hg.1 with h1 | h1; · exact h1.1
                                 · omega, hg.2⟩) (fun g hg => hg.2.2)
    rcases hcase with ⟨ha, rfl, ht, hj⟩ | ⟨ha, hb, rfl, ht, hj⟩ | ⟨ha, hb, rfl, ht, hj⟩
    · have e1 : comS s (batX X) = (appE s.xs.length (frmX (batX X)).length s.ro s.fu, { s with fu := burn s.fu, hd := true }) := by
        unfold comS; rw [if_neg (fun f => f hc), if_neg (by rw [hh]; decide), if_pos ha]
      rw [e1] at hok' ⊢
      exact ⟨o', rfl, ⟨hbel, h.glob, hok', ht, mn _ _ _ hj, h.own, hft⟩, kk, ho'⟩
    · have e1 : comS s (batX X) = (burnE (burn s.fu), { s with xs := s.xs ++ frmX (batX X), fu := burn (burn s.fu), hd := true }) := by
        unfold comS; rw [if_neg (fun f => f hc), if_neg (by rw [hh]; decide), if_neg (fun f => f ha), if_pos hb]
      rw [e1] at hok' ⊢
      exact ⟨o', rfl, ⟨hbel, h.glob, hok', ht, mn _ _ _ hj, h.own, hft⟩, kk, ho'⟩
    · have e1 : comS s (batX X) = (0, { s with xs := s.xs ++ frmX (batX X), sy := ((s.xs ++ frmX (batX X)).length : Int), fu := burn (burn s.fu), l := doK s.l (batX X), n := s.n + 1 }) := by
        unfold comS; rw [if_neg (fun f => f hc), if_neg (by rw [hh]; decide), if_neg (fun f => f ha), if_neg (fun f => f hb)]
      rw [e1] at hok' ⊢
      refine ⟨o', rfl, ⟨hbel, h.glob, hok', ht, ?_, h.own, hft⟩, kk, ho'⟩
      have hj' := mn _ _ _ hj
      rw [show s.hd = false from hh]
      exact hj'
theorem jw_commit {X : BatchD} (h : JW W w j b p o s) (hX : BatOk w X) (hXN : BatIn (fun g => g < W.heap.size) X) :
    Calls Tryd.prog 9 #[.pointer (some ⟨j, 0, none⟩), .agg (batCs X).toArray] w fun e w' =>
      ∃ o', e = .returned (.int .i64 (comS s (batX X)).1) ∧ JW W w' j b p o' (comS s (batX X)).2 ∧ Keep (fun k => foot p o k ∨ k = j ∨ k = b) w w' ∧ (o' = o ∨ ∃ g, o' = some g ∧ w.heap.size ≤ g) :=
  jw_commitN h hX (hXN.mono fun g hg => ⟨fun hf => by have := (h.ft g hf).1; omega, by have := h.own.1; omega, by have := h.own.2; omega⟩)
/-- a tape in memory of its own -/
structure TW (W w : World) (p : Nat) (o : Option Nat) (xs : List Int) (sy ro fu : Int) : Prop where
  bel : Below W.heap.size W w
  glob : Glob W
  byt : Byt xs
  len : xs.length ≤ 16777216
  r0 : 0 ≤ ro
  r1 : ro ≤ 16777216
  f0 : -1 ≤ fu
  f1 : fu ≤ 9223372036854775807
  y0 : 0 ≤ sy
  y1 : sy ≤ xs.length
  tape : TapeAt w p xs sy ro fu o
  ft : ∀ k, foot p o k → W.heap.size ≤ k
open Classical in
/-- what a tape opens to -/
noncomputable def opnS (xs : List Int) (sy ro fu : Int) : Int × JS :=
  if (opens xs).2 < xs.length ∧ fu = 0 then (150, ⟨xs, sy, ro, 0, [], 0, false⟩)
  else (0, ⟨xs.take (opens xs).2, if (opens xs).2 = xs.length then sy else ((opens xs).2 : Int), ro, if (opens xs).2 = xs.length then fu else burn fu, doAll [] (opens xs).1, (opens xs).1.length, false⟩)
theorem JW.tw (h : JW W w j b p o s) : TW W w p o s.xs s.sy s.ro s.fu :=
  ⟨h.bel, h.glob, h.ok.byt, h.ok.len, h.ok.r0, h.ok.r1, h.ok.f0, h.ok.f1, h.ok.y0, h.ok.y1, h.tape, fun k hk => (h.ft k hk).1⟩
theorem jw_open {xs : List Int} {sy ro fu : Int} (h : TW W w p o xs sy ro fu) :
    Calls Tryd.prog 13 #[.pointer (some ⟨p, 0, none⟩)] w fun e w' => Keep (foot p o) w w' ∧
      (((opnS xs sy ro fu).1 = 150 ∧ e = .returned (.tuple #[.pointer none, .int .i64 150]) ∧ TW W w' p o xs sy ro fu) ∨
       ((opnS xs sy ro fu).1 = 0 ∧ ∃ j b, e = .returned (.tuple #[.pointer (some ⟨j, 0, none⟩), .int .i64 0]) ∧ w.heap.size ≤ j ∧ w.heap.size ≤ b ∧ JAt (fun g => w.heap.size ≤ g ∧ g ≠ j ∧ g ≠ b) w' j b p (opnS xs sy ro fu).2.l (opnS xs sy ro fu).2.n (opnS xs sy ro fu).2.hd ∧ JW W w' j b p o (opnS xs sy ro fu).2)) := by
  have C := jopen p xs sy ro fu o w (h.glob.below h.bel) h.tape h.byt h.len h.f0 h.f1 (fun x hx => by have := h.ft x hx; have := h.glob.lt; omega)
  refine C.mono ?_
  rintro e w1 ⟨DB, r, hfit, hr, hno, rfl, kk, hcase⟩
  have hbel : Below W.heap.size W w1 := h.bel.trans (kk.below h.bel.size (fun k hk => h.ft k hk))
  have hop := opens_eq hfit hr hno
  have hlen : (DB.flatMap frmX ++ r).length = (DB.flatMap frmX).length + r.length := List.length_append
  have hlr : r = [] ↔ (DB.flatMap frmX).length = (DB.flatMap frmX ++ r).length := by
    rw [hlen]
    constructor
    · intro h1; rw [h1]; rfl
    · intro h1; exact List.length_eq_zero_iff.1 (by omega)
  have hlr2 : r ≠ [] ↔ (DB.flatMap frmX).length < (DB.flatMap frmX ++ r).length := by rw [ne_eq, hlr, hlen]; omega
  refine ⟨kk, ?_⟩
  rcases hcase with ⟨h1, h2, rfl, ht⟩ | ⟨h1, j, b, rfl, hj, hb, hJ, ht⟩
  · refine .inl ⟨?_, rfl, ⟨hbel, h.glob, h.byt, h.len, h.r0, h.r1, h.f0, h.f1, h.y0, h.y1, h2 ▸ ht, h.ft⟩⟩
    unfold opnS
    rw [hop, if_pos ⟨hlr2.1 h1, h2⟩]
  · have e1 : opnS (DB.flatMap frmX ++ r) sy ro fu = (0, ⟨DB.flatMap frmX, if r = [] then sy else ((DB.flatMap frmX).length : Int), ro, if r = [] then fu else burn fu, doAll [] DB, DB.length, false⟩) := by
      unfold opnS
      rw [hop, if_neg (fun f => h1 ⟨hlr2.2 f.1, f.2⟩), List.take_left' rfl]
      simp only [hlr]
    rw [e1]
    have b1 := burn_rng h.f0 h.f1
    have hl := h.len
    have hd := doAll_le DB [] Srt.nil
    refine .inr ⟨rfl, j, b, rfl, hj, hb, hJ, ⟨hbel, h.glob, ⟨Srt.nil.doAll DB, KvOk.nil.doAll hfit, h.byt.left, by show (DB.flatMap frmX).length ≤ _; omega, h.r0, h.r1, ?_, ?_, ?_, ?_, by simpa using hd, flat_frm_len DB⟩, ht, ?_, ?_, ?_⟩⟩
    · show -1 ≤ (if r = [] then fu else burn fu); split
      · exact h.f0
      · exact b1.1
    · show (if r = [] then fu else burn fu) ≤ _; split
      · exact h.f1
      · exact b1.2
    · show 0 ≤ (if r = [] then sy else ((DB.flatMap frmX).length : Int)); split
      · exact h.y0
      · omega
    · show (if r = [] then sy else ((DB.flatMap frmX).length : Int)) ≤ ((DB.flatMap frmX).length : Int); split
      · next h0 => have := h.y1; rw [← hlr.1 h0] at this; exact this
      · omega
    · have hs := h.bel.size
      have hfl := h.tape.lt
      exact hJ.mono (fun g hg _ => ⟨by omega, fun hf => by have := hfl g hf; omega, hg.2⟩) (fun g hg => hg.2.2)
    · have hs := h.bel.size; exact ⟨by omega, by omega⟩
    · intro k hk
      have hfl := h.tape.lt k hk
      exact ⟨h.ft k hk, by omega, by omega⟩
end
end Go.Proofs.YtbjbjgfjaopibaaDoor
end

section
/- samePairs: whether two lists of pairs are the same. -/
namespace Go.Proofs.YtbjbjgfjaopibaaDoor
open Go Go.RowKit
set_option linter.unusedSimpArgs false
set_option linter.unusedVariables false
set_option maxRecDepth 100000

theorem arr_oneJ {l : List Value} (h : ∀ u ∈ l, u.oneCell' = true) : l.toArray.all (·.oneCell') = true := by
  rw [Array.all_eq_true]; intro i hi
  exact h _ (by simp)
theorem cells_rangeJ {w : World} {b o : Nat} {cs : List Value} (h : CellsAt w b o cs) : w.rangeAt b o cs := fun j v hv => (h j (List.getElem?_eq_some_iff.1 hv).1).trans hv
theorem pairs_in {w : World} {G : Nat} {q : Option Addr} {c : Nat} {X : List PairD} (h : LstAt pairK 55 w G (.slice q X.length c) X) :
    ElemsIn w q X.length 2 pairCs PairOk (fun i => X.getD i ⟨⟨#[]⟩, ⟨none, 0, []⟩⟩) := fun i hi => by
  obtain ⟨o, h1, h2, h3⟩ := h
  obtain ⟨g, cap, ho, ev, _, _, hg, hc, _⟩ := h1.mem (by omega)
  cases ev
  have egd : X.getD i ⟨⟨#[]⟩, ⟨none, 0, []⟩⟩ = X[i] := by rw [List.getD_eq_getElem?_getD, List.getElem?_eq_getElem hi]; rfl
  show ∃ b o, _ ∧ (pairCs (X.getD i ⟨⟨#[]⟩, ⟨none, 0, []⟩⟩)).length = 2 ∧ CellsAt w b (o + i * 2) (pairCs (X.getD i ⟨⟨#[]⟩, ⟨none, 0, []⟩⟩)) ∧ PairOk w (X.getD i ⟨⟨#[]⟩, ⟨none, 0, []⟩⟩)
  rw [egd]
  refine ⟨g, 0, rfl, rfl, fun j hj => ?_, (h3 _ (List.getElem_mem hi)).1, (h3 _ (List.getElem_mem hi)).2.1⟩
  have hj' : j < pairK.k := hj
  show w.cell? ⟨g, 0 + i * pairK.k + j, none⟩ = (pairK.cs X[i])[j]?
  rw [Nat.zero_add, hc (i * pairK.k + j) (by
    have : (i + 1) * pairK.k ≤ X.length * pairK.k := Nat.mul_le_mul_right _ hi
    rw [Nat.add_mul] at this; omega), flat_get pairK X i j hi hj']
theorem map_eq_getD {X Y : List PairD} (h : X.map pairX = Y.map pairX) (i : Nat) (hi : i < X.length) : pairX (X.getD i ⟨⟨#[]⟩, ⟨none, 0, []⟩⟩) = pairX (Y.getD i ⟨⟨#[]⟩, ⟨none, 0, []⟩⟩) := by
  have hl : X.length = Y.length := by have := congrArg List.length h; simpa using this
  have h1 : (X.map pairX)[i]? = (Y.map pairX)[i]? := by rw [h]
  rw [List.getElem?_map, List.getElem?_map, List.getElem?_eq_getElem hi, List.getElem?_eq_getElem (hl ▸ hi)] at h1
  rw [List.getD_eq_getElem?_getD, List.getD_eq_getElem?_getD, List.getElem?_eq_getElem hi, List.getElem?_eq_getElem (hl ▸ hi)]
  exact Option.some.inj h1
set_option maxHeartbeats 3200000 in
/-- two pairs -/
theorem same_pair (x y : PairD) (w : World) (hx : PairOk w x) (hy : PairOk w y) :
    Calls Tryd.prog 45 #[.agg (pairCs x).toArray, .agg (pairCs y).toArray] w fun e w' => ∃ b, e = .returned (.bool b) ∧ (pairX x = pairX y → b = true) ∧ Below w.heap.size w w' := by
  obtain ⟨xk, ⟨xa, xc, xz⟩⟩ := x
  obtain ⟨yk, ⟨ya, yc, yz⟩⟩ := y
  change Calls Tryd.prog 45 #[.agg #[.string xk, .slice xa xz.length xc], .agg #[.string yk, .slice ya yz.length yc]] w _
  have L := two_blocks w #[.string xk, .slice xa xz.length xc] #[.string yk, .slice ya yz.length yc] 55 55
  have bx := hx.2.1.below L.2.2
  have by' := hy.2.1.below L.2.2
  have PE := Tryd.bytes_Equal_all xa ya xz.length xc yz.length yc xz yz ((w.alloc (.cells #[.string xk, .slice xa xz.length xc] 55)).alloc (.cells #[.string yk, .slice ya yz.length yc] 55)) rfl rfl bx.bytes by'.bytes
  have PE := Lib.hid PE
  have HE := Lib.hid (show pairX ⟨xk, ⟨xa, xc, xz⟩⟩ = pairX ⟨yk, ⟨ya, yc, yz⟩⟩ → xk = yk ∧ xz = yz from fun e => ⟨bsK_inj (congrArg Prod.fst e), congrArg Prod.snd e⟩)
  have HB := Lib.hid L.2.2
  clear hx hy L bx by'
  generalize pairX ⟨xk, ⟨xa, xc, xz⟩⟩ = px at *
  generalize pairX ⟨yk, ⟨ya, yc, yz⟩⟩ = py at *
  generalize heq : (Lib.bytesOf xz == Lib.bytesOf yz) = eb at *
  have HEB := Lib.hid heq
  clear heq
  generalize xz.length = n at *
  generalize yz.length = m at *
  by_cases hk : xk = yk
  · subst hk
    have HF := Lib.hid (show px = py → eb = true from fun e => by rw [← HEB.out]; rw [(HE.out e).2]; exact beq_self_eq_true _)
    go_enter Tryd.func45, Tryd.ntmps45
    go_wp2_with fail
    refine PE.out.mono ?_
    rintro e w' ⟨rfl, hw'⟩
    subst hw'
    go_wp2
    go_ret
    exact ⟨eb, rfl, HF.out, HB.out⟩
  · have hkk : (xk.toList == yk.toList) = false := beq_false_of_ne fun e => hk (by rw [ByteArray.toList_eq, ByteArray.toList_eq] at e; exact bsK_inj e)
    have HF := Lib.hid (show px = py → false = true from fun e => absurd (HE.out e).1 hk)
    go_enter Tryd.func45, Tryd.ntmps45
    go_wp2
    go_ret
    exact ⟨false, rfl, HF.out, HB.out⟩
set_option maxHeartbeats 6400000 in
/-- slices.EqualFunc at pairs -/
theorem eqf_pairs (a0 b0 : Option Addr) (n m ca cb : Nat) (X Y : Nat → PairD) (w : World) (hX : ElemsIn w a0 n 2 pairCs PairOk X) (hY : ElemsIn w b0 m 2 pairCs PairOk Y) (hn : n ≤ 1000000000000) (hm : m ≤ 1000000000000) :
    Calls Tryd.prog 44 #[.slice a0 n ca, .slice b0 m cb, .func (.func 45) #[] #[]] w fun e w' => ∃ b, e = .returned (.bool b) ∧ (n = m → (∀ i, i < n → pairX (X i) = pairX (Y i)) → b = true) ∧ Below w.heap.size w w' := by
  by_cases hnm : n = m
  · subst hnm
    have HR := Lib.hid (And.intro hX hY)
    clear hX hY
    have hne : ((n : Int) != (n : Int)) = false := bne_self_eq_false _
    obtain ⟨R, hR⟩ : ∃ R : Prop, R = ∀ i, i < n → pairX (X i) = pairX (Y i) := ⟨_, rfl⟩
    simp only [← hR, true_implies]
    have HRR := Lib.hid hR
    clear hR
    go_enter Tryd.func44, Tryd.ntmps44
    go_wp2
    go_loopg [17] n (fun gh i wx => ∃ k : Nat, k ≤ n ∧ i = .int .i64 (k : Int) ∧ gh = n - k ∧ Hid (Below w.heap.size w wx))
    case atStart => exact ⟨0, Nat.zero_le _, rfl, rfl, Below.refl _ _⟩
    case round =>
      obtain ⟨k, hk, rfl, hg, HB⟩ := hrel
      have HG := Lib.hid hg
      clear hg hne
      by_cases hlt : k < n
      · obtain ⟨b, o, rfl, hcl, hca, hok⟩ := HR.out.1 k hlt
        obtain ⟨b', o', rfl, hcl', hca', hok'⟩ := HR.out.2 k hlt
        obtain ⟨xk, hxk⟩ : ∃ xk, xk = X k := ⟨_, rfl⟩
        obtain ⟨yk, hyk⟩ : ∃ yk, yk = Y k := ⟨_, rfl⟩
        rw [← hxk] at hcl hca hok
        rw [← hyk] at hcl' hca' hok'
        have HXY := Lib.hid (And.intro hxk hyk)
        clear hxk hyk
        have hone1 : (pairCs xk).toArray.all (·.oneCell') = true := arr_oneJ (pairK.one xk)
        have hone2 : (pairCs yk).toArray.all (·.oneCell') = true := arr_oneJ (pairK.one yk)
        obtain ⟨IC, hIC⟩ : ∃ IC, IC = pairCs xk := ⟨_, rfl⟩
        obtain ⟨JC, hJC⟩ : ∃ JC, JC = pairCs yk := ⟨_, rfl⟩
        rw [← hIC] at hcl hca hone1
        rw [← hJC] at hcl' hca' hone2
        have HO := Lib.hid (And.intro hok hok')
        have HIC := Lib.hid (And.intro hIC hJC)
        clear hIC hJC hok hok'
        have hsa1 : IC.toArray.size = 2 := by rw [List.size_toArray]; exact hcl
        have hsa2 : JC.toArray.size = 2 := by rw [List.size_toArray]; exact hcl'
        have hr1 := cells_rangeJ (hca.below HB.out)
        have bz := Blk.new wr #[.string ⟨#[]⟩, .slice none 0 0] 55
        have kz := (Below.refl wr.heap.size wr).alloc (Nat.le_refl _) (.cells #[.string ⟨#[]⟩, .slice none 0 0] 55)
        have hinf1 : (Tryd.prog.info? 55).map (·.size) = some IC.toArray.size := by rw [hsa1]; kernel_rfl
        have hinf2 : (Tryd.prog.info? 55).map (·.size) = some JC.toArray.size := by rw [hsa2]; kernel_rfl
        have hinf1' : (Tryd.prog.info? 55).map (·.size) = some IC.length := by rw [hcl]; kernel_rfl
        have hinf2' : (Tryd.prog.info? 55).map (·.size) = some JC.length := by rw [hcl']; kernel_rfl
        have hsz1 : (#[.string ⟨#[]⟩, .slice none 0 0] : Array Value).size = IC.toArray.size := by rw [hsa1]; rfl
        have hsz2 : (#[.string ⟨#[]⟩, .slice none 0 0] : Array Value).size = JC.toArray.size := by rw [hsa2]; rfl
        have bx := bz.setAll IC.toArray hsz1
        have kx := below_setCells (B := wr.heap.size) (g := wr.heap.size) (Nat.le_refl _) IC.toArray.toList 0 (wr.alloc (.cells #[.string ⟨#[]⟩, .slice none 0 0] 55)) kz
        have hr2 := hca'.below HB.out
        clear hca kz hcl hcl' hsa1 hsa2
        go_upto_region 6 with (first | (refine wpList_load_mid rfl 55 (.tmp 20) rfl b (o + k * 2) rfl IC _ hr1 Tryd.underlying55 rfl hinf1' ?_) | (refine wpl_store rfl 55 (.tmp 8) (.tmp 21) rfl rfl rfl bz hsz1 hinf1 hone1 ?_))
        rw [List.toList_toArray] at kx bx
        change Blk ((wr.alloc (.cells #[.string ⟨#[]⟩, .slice none 0 0] 55)).setCells wr.heap.size 0 IC) wr.heap.size IC.toArray 55 at bx
        clear bz hr1
        generalize (wr.alloc (.cells #[.string ⟨#[]⟩, .slice none 0 0] 55)).setCells wr.heap.size 0 IC = w4 at *
        generalize hgx : wr.heap.size = gx at *
        have hb4 : Below wr.heap.size wr w4 := by rw [hgx]; exact kx
        have hlx := bx.lt
        have hr2 := cells_rangeJ (hr2.below hb4)
        have bz := Blk.new w4 #[.string ⟨#[]⟩, .slice none 0 0] 55
        have kz := (Below.refl w4.heap.size w4).alloc (Nat.le_refl _) (.cells #[.string ⟨#[]⟩, .slice none 0 0] 55)
        have by' := bz.setAll JC.toArray hsz2
        have ky := below_setCells (B := w4.heap.size) (g := w4.heap.size) (Nat.le_refl _) JC.toArray.toList 0 (w4.alloc (.cells #[.string ⟨#[]⟩, .slice none 0 0] 55)) kz
        have bx' := bx.beyond ky
        have HB4 := Lib.hid hb4
        clear kz hb4 kx
        go_upto_region 7 with (first | (refine wpList_load_mid rfl 55 (.tmp 24) rfl b' (o' + k * 2) rfl JC _ hr2 Tryd.underlying55 rfl hinf2' ?_) | (refine wpl_store rfl 55 (.tmp 9) (.tmp 25) rfl rfl rfl bz hsz2 hinf2 hone2 ?_))
        rw [List.toList_toArray] at ky by' bx'
        change Blk ((w4.alloc (.cells #[.string ⟨#[]⟩, .slice none 0 0] 55)).setCells w4.heap.size 0 JC) w4.heap.size JC.toArray 55 at by'
        change Blk ((w4.alloc (.cells #[.string ⟨#[]⟩, .slice none 0 0] 55)).setCells w4.heap.size 0 JC) gx IC.toArray 55 at bx'
        change Below w4.heap.size w4 ((w4.alloc (.cells #[.string ⟨#[]⟩, .slice none 0 0] 55)).setCells w4.heap.size 0 JC) at ky
        clear bz hr2 bx
        generalize (w4.alloc (.cells #[.string ⟨#[]⟩, .slice none 0 0] 55)).setCells w4.heap.size 0 JC = w5 at *
        have hb5 : Below wr.heap.size wr w5 := HB4.out.trans (ky.mono HB4.out.size)
        generalize hgy : w4.heap.size = gy at *
        have hbw5 := HB.out.trans (hb5.mono HB.out.size)
        have r1 := cells_rangeJ (w := w5) (b := gx) (o := 0) (cs := IC) (fun t ht => by rw [Nat.zero_add, bx'.cell, List.getElem?_toArray])
        have r2 := cells_rangeJ (w := w5) (b := gy) (o := 0) (cs := JC) (fun t ht => by rw [Nat.zero_add, by'.cell, List.getElem?_toArray])
        have PC : Calls Tryd.prog 45 #[.agg IC.toArray, .agg JC.toArray] w5 fun e w' => ∃ b, e = .returned (.bool b) ∧ (pairX xk = pairX yk → b = true) ∧ Below w5.heap.size w5 w' := by
          rw [HIC.out.1, HIC.out.2]
          exact same_pair xk yk w5 (HO.out.1.below hbw5) (HO.out.2.below hbw5)
        have PC := Lib.hid PC
        have HW5 := Lib.hid hbw5
        clear hb5 ky hbw5 bx' by'
        go_wp2_with (first | (refine wpList_load_mid rfl 55 (.tmp 8) rfl gx 0 rfl IC _ r1 Tryd.underlying55 rfl hinf1' ?_) | (refine wpList_load_mid rfl 55 (.tmp 9) rfl gy 0 rfl JC _ r2 Tryd.underlying55 rfl hinf2' ?_))
        refine PC.out.mono ?_
        rintro e w6 ⟨bb, rfl, hbb, hb6⟩
        have H6 := Lib.hid (HW5.out.trans (hb6.mono HW5.out.size))
        have HBB := Lib.hid hbb
        clear hb6 r1 r2 hbb
        cases bb
        · go_wp2
          go_ret
          refine ⟨false, rfl, fun hR => ?_, H6.out⟩
          rw [HRR.out] at hR
          have := hR k hlt
          rw [← HXY.out.1, ← HXY.out.2] at this
          exact HBB.out this
        · go_wp2
          go_roundg (n - (k + 1))
          case measure => rw [HG.out]; omega
          case rel => exact ⟨k + 1, hlt, rfl, rfl, H6.out⟩
      · obtain rfl : k = n := by omega
        go_wp2
        go_ret
        exact ⟨true, rfl, fun _ => rfl, HB.out⟩
  · have hne : ((n : Int) != (m : Int)) = true := by rw [bne_iff_ne]; omega
    have HF := Lib.hid hnm
    clear hX hY hnm
    go_enter Tryd.func44, Tryd.ntmps44
    go_wp2
    go_ret
    exact ⟨false, rfl, fun h => absurd h HF.out, Below.refl _ _⟩
/-- whether two lists of pairs are the same -/
theorem psame {w : World} {G1 G2 : Nat} {q1 q2 : Option Addr} {c1 c2 : Nat} {X Y : List PairD} (h1 : LstAt pairK 55 w G1 (.slice q1 X.length c1) X) (h2 : LstAt pairK 55 w G2 (.slice q2 Y.length c2) Y) (l1 : X.length ≤ 1000000000000) (l2 : Y.length ≤ 1000000000000) :
    Calls Tryd.prog 18 #[.slice q1 X.length c1, .slice q2 Y.length c2] w fun e w' => ∃ b, e = .returned (.bool b) ∧ (X.map pairX = Y.map pairX → b = true) ∧ Below w.heap.size w w' := by
  have P := eqf_pairs q1 q2 X.length Y.length c1 c2 _ _ w (pairs_in h1) (pairs_in h2) l1 l2
  have P' : Calls Tryd.prog 44 #[.slice q1 X.length c1, .slice q2 Y.length c2, .func (.func 45) #[] #[]] w fun e w' => ∃ b, e = .returned (.bool b) ∧ (X.map pairX = Y.map pairX → b = true) ∧ Below w.heap.size w w' :=
    P.mono fun e w' ⟨b, he, hb, hbel⟩ => ⟨b, he, fun h => hb (by have := congrArg List.length h; simpa using this) (fun i hi => map_eq_getD h i hi), hbel⟩
  have PP := Lib.hid P'
  clear P P' h1 h2 l1 l2
  obtain ⟨R, hR⟩ : ∃ R : Prop, R = (X.map pairX = Y.map pairX) := ⟨_, rfl⟩
  rw [← hR] at PP ⊢
  clear hR
  generalize X.length = n at *
  generalize Y.length = m at *
  go_enter Tryd.func18, Tryd.ntmps18
  go_wp2_with fail
  refine PP.out.mono ?_
  rintro e w1 ⟨b, rfl, hb, hbel⟩
  have HB := Lib.hid (And.intro hb hbel)
  clear hb hbel
  go_wp2
  go_ret
  exact ⟨b, rfl, HB.out⟩
end Go.Proofs.YtbjbjgfjaopibaaDoor
end

section
/- JournalHalts: the law's walk. -/
namespace Go.Proofs.YtbjbjgfjaopibaaDoor
open Go Go.RowKit
set_option linter.unusedSimpArgs false
set_option linter.unusedVariables false
set_option maxRecDepth 100000

theorem LstAt.keepG {α : Type} {K : EKind α} {e : TypeId} {w w' : World} {G : Nat} {v : Value} {X : List α} (h : LstAt K e w G v X) (hk : Keep (fun k => k < G) w w') : LstAt K e w' G v X := by
  obtain ⟨o, h1, h2, h3⟩ := h
  exact ⟨o, h1.keep hk (fun g hg hlt => by have := h2 g hg; omega), h2, fun x hx => K.mono (K.keep (h3 x hx) hk (fun b hb hlt => by have := hb.1; omega)) (fun b hb => ⟨hb.1, Nat.lt_of_lt_of_le hb.2.1 hk.size, hb.2.2⟩)⟩
/-- the batch of nothing -/
def bat0 : BatchD := ⟨⟨none, 0, 0, fun _ => ⟨⟨#[]⟩, ⟨none, 0, []⟩⟩⟩, ⟨none, 0, 0, fun _ => ⟨#[]⟩⟩⟩
theorem bat0_ok (w : World) : BatOk w bat0 :=
  ⟨⟨Nat.le_refl _, ⟨Nat.zero_le _, by decide⟩, fun _ => rfl, fun i hi => absurd hi (Nat.not_lt_zero i)⟩, ⟨Nat.le_refl _, ⟨Nat.zero_le _, by decide⟩, fun _ => rfl, fun i hi => absurd hi (Nat.not_lt_zero i)⟩⟩
theorem bat0_can : CanB (batX bat0) := ⟨by decide, by decide, fun p hp => absurd hp (by simp [batX, bat0]), fun p hp => absurd hp (by simp [batX, bat0]), by decide⟩
theorem opn_nil (ro : Int) : opnS [] 0 ro (-1) = (0, ⟨[], 0, ro, -1, [], 0, false⟩) := by
  have h := opens_eq (xs := []) (r := []) (fun x hx => by cases hx) Byt.nil nil_none
  change opens [] = ([], 0) at h
  unfold opnS
  rw [h, if_neg (fun f => absurd f.2 (by decide))]
  rfl
theorem com_free {s : JS} {x : BatD} (h1 : s.fu = -1) (h2 : s.hd = false) (h3 : (s.xs.length : Int) + 1048588 ≤ s.ro) :
    (comS s x).2.fu = -1 ∧ (comS s x).2.ro = s.ro ∧ (comS s x).2.hd = false ∧ (comS s x).2.xs.length ≤ s.xs.length + 1048588 := by
  unfold comS
  by_cases hc : CanB x
  · have hl : (frmX x).length ≤ 1048588 := by have := hc.len; unfold frmX; rw [frmB_len]; omega
    have ha : appE s.xs.length (frmX x).length s.ro s.fu = 0 := by unfold appE; rw [h1, if_neg (by decide), if_neg (by omega)]
    have hb : burnE (burn s.fu) = 0 := by rw [h1]; rfl
    rw [if_neg (fun f => f hc), if_neg (by rw [h2]; decide), if_neg (fun f => f ha), if_neg (fun f => f hb)]
    exact ⟨by show burn (burn s.fu) = -1; rw [h1]; rfl, rfl, h2, by show (s.xs ++ frmX x).length ≤ _; rw [List.length_append]; omega⟩
  · rw [if_pos hc]; exact ⟨h1, rfl, h2, Nat.le_add_right _ _⟩
theorem com_full {s : JS} {x : BatD} (h1 : s.fu = -1) (h2 : s.hd = false) (h3 : s.ro = s.xs.length) (hc : CanB x) : comS s x = (4, { s with fu := -1, hd := true }) := by
  have hl := frmX_pos x
  have ha : appE s.xs.length (frmX x).length s.ro s.fu = 4 := by unfold appE; rw [h1, if_neg (by decide), if_pos (by omega)]
  unfold comS
  rw [if_neg (fun f => f hc), if_neg (by rw [h2]; decide), if_pos (by rw [ha]; decide), ha, h1]
  rfl
theorem com_halt {s : JS} (x : BatD) (h : s.hd = true) : ((comS s x).1 = 210 ∨ (comS s x).1 = 1) ∧ (comS s x).2 = s ∧ (CanB x → (comS s x).1 = 210) := by
  unfold comS
  by_cases hc : CanB x
  · rw [if_neg (fun f => f hc), if_pos h]; exact ⟨.inl rfl, rfl, fun _ => rfl⟩
  · rw [if_pos hc]; exact ⟨.inr rfl, rfl, fun h => absurd h hc⟩
theorem jw_room {W w : World} {j b p : Nat} {o : Option Nat} {s : JS} (h : JW W w j b p o s) {n : Int} (h0 : 0 ≤ n) (h1 : n ≤ 16777216) :
    Calls Tryd.prog 16 #[.pointer (some ⟨p, 0, none⟩), .int .i64 n] w fun e w' => e = .returned (.int .i64 0) ∧ JW W w' j b p o { s with ro := n } ∧ Keep (foot p o) w w' := by
  refine (troom p s.xs s.sy s.ro s.fu n o w h.tape).mono ?_
  rintro e w1 ⟨rfl, ht, hk⟩
  have e1 : roomE n = 0 := by unfold roomE; rw [if_neg (by omega)]
  have e2 : roomN n s.ro = n := by unfold roomN; rw [if_neg (by omega)]
  rw [e2] at ht
  refine ⟨by rw [e1], ⟨h.bel.trans (hk.below h.bel.size (fun k hk => (h.ft k hk).1)), h.glob, ⟨h.ok.srt, h.ok.kv, h.ok.byt, h.ok.len, h0, h1, h.ok.f0, h.ok.f1, h.ok.y0, h.ok.y1, h.ok.ll, h.ok.nn⟩, ht, ?_, h.own, h.ft⟩, hk⟩
  exact h.jat.keep hk (fun hf => (h.ft _ hf).2.1 rfl) (fun hf => (h.ft _ hf).2.2 rfl) (fun g hg _ hf => hg.2.1 hf)
theorem jw_contents {W w : World} {j b p : Nat} {o : Option Nat} {s : JS} (h : JW W w j b p o s) :
    Calls Tryd.prog 15 #[.pointer (some ⟨j, 0, none⟩)] w fun e w' => Below w.heap.size w w' ∧ ∃ (q : Option Addr) (c : Nat) (X : List PairD), e = .returned (.slice q X.length c) ∧ LstAt pairK 55 w' w.heap.size (.slice q X.length c) X ∧ X.map pairX = s.l ∧ (X = [] → q = none) :=
  pcontents j b p s.l s.n s.hd _ w h.jat h.ok.srt h.ok.kv (by have := h.ok.ll; have := h.ok.len; omega)
theorem bat_one (x : BatchD) : ∀ u ∈ batCs x, u.oneCell' = true := fun u hu => by
  simp only [batCs, List.mem_cons, List.not_mem_nil, or_false] at hu
  rcases hu with rfl | rfl <;> rfl
theorem far_step {B : Nat} {w6 w w' : World} {p j b : Nat} {o : Option Nat} (hk : Keep (fun g => g < B) w6 w) (h2 : Keep (fun k => foot p o k ∨ k = j ∨ k = b) w w') (hf : ∀ g, foot p o g → g < B ∨ w6.heap.size ≤ g) (hj : j < B) (hb : b < B) : Keep (fun g => g < B) w6 w' :=
  hk.trans' h2 fun g hg => by
    rcases hg with hg | rfl | rfl
    · exact hf g hg
    · exact .inl hj
    · exact .inl hb
theorem far_foot {B : Nat} {w6 w : World} {p : Nat} {o o' : Option Nat} (hk : Keep (fun g => g < B) w6 w) (ho : o' = o ∨ ∃ g, o' = some g ∧ w.heap.size ≤ g) (hf : ∀ g, foot p o g → g < B ∨ w6.heap.size ≤ g) : ∀ g, foot p o' g → g < B ∨ w6.heap.size ≤ g := fun g hg => by
  rcases foot_new ho hg with h | h
  · exact hf g h
  · exact .inr (Nat.le_trans hk.size h)
set_option maxHeartbeats 12800000 in
theorem halts_walk (a : Option Addr) (n c : Nat) (X : Nat → BatchD) (x : BatchD) (W : World) (G : Glob W) (hX : ElemsIn W a n 2 batCs BatOk X) (hn : n ≤ 140737488351232) (hx : BatOk W x) :
    Calls Tryd.prog 4 #[.slice a n c, .agg (batCs x).toArray] W fun e w' => e = .returned (.bool true) ∧ Below W.heap.size W w' := by
  have k0 := (Below.refl W.heap.size W).alloc (Nat.le_refl _) (.cells (batCs x).toArray 25)
  have bn := Blk.new W (batCs x).toArray 25
  obtain ⟨IX, hIX⟩ : ∃ IX, IX = batCs x := ⟨_, rfl⟩
  rw [← hIX] at k0 bn ⊢
  have HIX := Lib.hid hIX
  have HX := Lib.hid (And.intro hX k0)
  have HBX := Lib.hid (And.intro bn (And.intro hx G))
  have hinf0 : (Tryd.prog.info? 25).map (·.size) = some IX.length := by rw [hIX]; kernel_rfl
  have hone0 : IX.toArray.all (·.oneCell') = true := by rw [hIX]; exact arr_oneJ (bat_one x)
  clear hX hx G k0 bn hIX
  go_enter Tryd.func4, Tryd.ntmps4
  go_upto_region 1 with fail
  generalize W.alloc (.cells IX.toArray 25) = w0 at *
  have PN := Lib.hid (tnew 16777216 w0 (by decide) (by decide))
  go_wp2_with fail
  refine PN.out.mono ?_
  rintro e w1 ⟨p, o, rfl, hT, hp, ho, hb1⟩
  have hTW : TW w0 w1 p o [] 0 16777216 (-1) := ⟨hb1, HBX.out.2.2.below HX.out.2, Byt.nil, by decide, by decide, by decide, by decide, by decide, by decide, by decide, hT, fun k hk => by
    rcases hk with rfl | hk
    · exact hp
    · exact ho k hk⟩
  have PO := jw_open hTW
  rw [opn_nil] at PO
  have PO := Lib.hid PO
  clear hT hp ho hb1 hTW
  go_wp2_with fail
  refine PO.out.mono ?_
  rintro e w2 ⟨k2, ⟨h150, _⟩ | ⟨_, j, b, rfl, hj, hb, hJ, hW⟩⟩
  · exact absurd h150 (by decide)
  have HW := Lib.hid hW
  clear k2 hj hb hJ hW
  go_wp2
  go_loopg [29] n (fun gh i wx => ∃ (k : Nat) (o : Option Nat) (s : JS), k ≤ n ∧ i = .int .i64 (k : Int) ∧ gh = n - k ∧ Hid (JW w0 wx j b p o s ∧ s.fu = -1 ∧ s.ro = 16777216 ∧ s.hd = false ∧ s.xs.length ≤ min k 8 * 1048588))
  case atStart => exact ⟨0, o, _, Nat.zero_le _, rfl, rfl, HW.out, rfl, rfl, rfl, Nat.zero_le _⟩
  case round =>
    obtain ⟨k, o, s, hk, rfl, hg, HK⟩ := hrel
    have HG := Lib.hid hg
    clear hg
    by_cases hlt : k < n
    rotate_left
    · obtain rfl : k = n := by omega
      have PC := Lib.hid (jw_contents HK.out.1)
      go_wp2_with fail
      refine PC.out.mono ?_
      rintro e w6 ⟨hb6, q6, c6, X6, rfl, hL6, hX6, _⟩
      have HJ6 := HK.out.1.more hb6
      have H6 := Lib.hid (And.intro hL6 (And.intro hX6 HJ6))
      have PH := Lib.hid (jhalted j ⟨p, 0, none⟩ _ _ _ w6 HJ6.jat.1)
      have PB := Lib.hid (tbytes p s.xs s.sy s.ro s.fu o w6 HJ6.tape (by have := HJ6.ok.len; omega))
      rw [HK.out.2.2.2.1] at PH
      clear hb6 hL6 hX6 HJ6 PC
      obtain ⟨xl, hxl⟩ : ∃ xl, xl = s.xs.length := ⟨_, rfl⟩
      rw [← hxl] at PB
      have HXL := Lib.hid hxl
      clear hxl
      generalize hn6 : X6.length = n6 at *
      have HN6 := Lib.hid hn6
      clear hn6
      go_wp2_with fail
      refine PH.out.mono ?_
      rintro e w6' ⟨rfl, hw⟩
      subst w6'
      go_wp2_with fail
      refine PB.out.mono ?_
      rintro e w7 ⟨q7, c7, o7, rfl, _, _, hb7⟩
      have HJ7 := H6.out.2.2.more hb7
      have PR := Lib.hid (jw_room HJ7 (n := (xl : Int)) (by omega) (by rw [HXL.out]; have := HJ7.ok.len; omega))
      clear HJ7
      go_wp2_with fail
      refine PR.out.mono ?_
      rintro e w8 ⟨rfl, HJ8, hk8⟩
      have hk68 : Keep (fun g => g < wr.heap.size) w6 w8 := (Keep.of_below (X := fun g => g < wr.heap.size) hb7).trans' hk8 (fun g hg => .inl (HK.out.1.tape.lt g hg))
      have hc8 := com_full (s := { s with ro := (xl : Int) }) (x := batX bat0) HK.out.2.1 HK.out.2.2.2.1 (by rw [HXL.out]) bat0_can
      have PC := jw_commit HJ8 (bat0_ok _) ((bat0_ok w0).old)
      rw [hc8] at PC
      change Calls Tryd.prog 9 #[.pointer (some ⟨j, 0, none⟩), .agg #[.slice none 0 0, .slice none 0 0]] w8 _ at PC
      have PC := Lib.hid PC
      have H8 := Lib.hid hk68
      clear HJ8 hk68 hk8 hc8 hb7
      go_wp2_with fail
      refine PC.out.mono ?_
      rintro e w9 ⟨o9, rfl, HJ9, hk9, ho9⟩
      have PH := Lib.hid (jhalted j ⟨p, 0, none⟩ _ _ _ w9 HJ9.jat.1)
      have hf8 : ∀ g, foot p o g → g < wr.heap.size ∨ w6.heap.size ≤ g := fun g hg => .inl (HK.out.1.tape.lt g hg)
      have hK9 := far_step H8.out hk9 hf8 HK.out.1.jat.lt.1 HK.out.1.jat.lt.2
      have hf9 := far_foot H8.out ho9 hf8
      have H9 := Lib.hid (And.intro HJ9 (And.intro hK9 hf9))
      clear HJ9 hK9 hf9 hk9 ho9 H8 hf8
      go_wp2_with fail
      refine PH.out.mono ?_
      rintro e w9' ⟨rfl, hw⟩
      subst w9'
      have bn9 := HBX.out.1.beyond H9.out.1.bel
      have r9 := cells_rangeJ (w := w9) (b := W.heap.size) (o := 0) (cs := IX) (fun t ht => by rw [Nat.zero_add, bn9.cell, List.getElem?_toArray])
      have PC := jw_commit H9.out.1 (HBX.out.2.1.below (HX.out.2.trans (H9.out.1.bel.mono HX.out.2.size))) (HBX.out.2.1.old.mono fun g hg => Nat.lt_of_lt_of_le hg HX.out.2.size)
      obtain ⟨hch, hcs, _⟩ := com_halt (s := { { s with ro := (xl : Int) } with fu := -1, hd := true }) (batX x) rfl
      rw [hcs, ← HIX.out] at PC
      generalize (comS { { s with ro := (xl : Int) } with fu := -1, hd := true } (batX x)).1 = rr at *
      have PC := Lib.hid PC
      clear bn9 hcs
      go_wp2_with (first | (refine wpList_load_mid rfl 25 (.tmp 3) rfl W.heap.size 0 rfl IX _ r9 Tryd.underlying25 rfl hinf0 ?_))
      refine PC.out.mono ?_
      rintro e w10 ⟨o10, rfl, HJ10, hk10, ho10⟩
      have hK10 := far_step H9.out.2.1 hk10 H9.out.2.2 HK.out.1.jat.lt.1 HK.out.1.jat.lt.2
      have hf10 := far_foot H9.out.2.1 ho10 H9.out.2.2
      have PR := Lib.hid (jw_room HJ10 (n := 16777216) (by decide) (by decide))
      have H10 := Lib.hid (And.intro HJ10 (And.intro hK10 hf10))
      clear HJ10 hK10 hf10 hk10 ho10 H9 r9 PC
      have hrr : (rr == 210) = true ∨ ((rr == 210) = false ∧ (rr == 1) = true) := by
        rcases hch with h | h
        · rw [h]; exact .inl rfl
        · rw [h]; exact .inr ⟨rfl, rfl⟩
      clear hch
      rcases hrr with hr1 | ⟨hr1, hr2⟩
      all_goals
        go_wp2_with fail
        refine PR.out.mono ?_
        rintro e w11 ⟨rfl, HJ11, hk11⟩
        have hK11 := H10.out.2.1.trans' hk11 H10.out.2.2
        have PC := jw_commit HJ11 (bat0_ok _) ((bat0_ok w0).old)
        obtain ⟨_, hcs, hch⟩ := com_halt (s := { { { s with ro := (xl : Int) } with fu := -1, hd := true } with ro := 16777216 }) (batX bat0) rfl
        have hch := hch bat0_can
        rw [hcs, hch] at PC
        change Calls Tryd.prog 9 #[.pointer (some ⟨j, 0, none⟩), .agg #[.slice none 0 0, .slice none 0 0]] w11 _ at PC
        have PC := Lib.hid PC
        have H11 := Lib.hid hK11
        clear hK11 hcs hch hk11 HJ11
        go_wp2_with fail
        refine PC.out.mono ?_
        rintro e w12 ⟨o12, rfl, HJ12, hk12, ho12⟩
        have hK12 := far_step H11.out hk12 H10.out.2.2 HK.out.1.jat.lt.1 HK.out.1.jat.lt.2
        have PT := Lib.hid (jw_contents HJ12)
        have H12 := Lib.hid (And.intro HJ12 hK12)
        clear HJ12 hK12 hk12 ho12 PC
        go_wp2_with fail
        refine PT.out.mono ?_
        rintro e w13 ⟨hb13, q13, c13, X13, rfl, hL13, hX13, _⟩
        have hL6 := H6.out.1.keepG (H12.out.2.trans (Keep.of_below (X := fun g => g < wr.heap.size) hb13))
        rw [← HN6.out] at hL6
        have hE : X13.map pairX = X6.map pairX := hX13.trans H6.out.2.1.symm
        have hll : s.l.length ≤ 1000000000000 := by have h1 := HK.out.1.ok.ll; have h2 := HK.out.1.ok.len; omega
        have PS := psame hL13 hL6 (by have h1 := congrArg List.length hX13; rw [List.length_map] at h1; rw [h1]; exact hll) (by have h1 := congrArg List.length H6.out.2.1; rw [List.length_map] at h1; rw [h1]; exact hll)
        clear hll
        rw [HN6.out] at PS
        have HF := Lib.hid (And.intro hE (HX.out.2.trans ((H12.out.1.bel.trans (hb13.mono H12.out.1.bel.size)).mono HX.out.2.size)))
        have PS := Lib.hid PS
        clear hL6 hL13 hE hb13 hX13
        generalize X13.length = n13 at *
        go_wp2_with fail
        refine PS.out.mono ?_
        rintro e w14 ⟨bb, rfl, hbb, hb14⟩
        obtain rfl : bb = true := hbb HF.out.1
        have HG14 := Lib.hid (HF.out.2.trans (hb14.mono HF.out.2.size))
        clear hbb hb14
        go_wp2
        go_ret
        exact ⟨rfl, HG14.out⟩
    obtain ⟨b', o', rfl, hcl, hca, hok⟩ := HX.out.1 k hlt
    have hbo := hok.old
    obtain ⟨IC, hIC⟩ : ∃ IC, IC = batCs (X k) := ⟨_, rfl⟩
    rw [← hIC] at hcl hca
    have hone1 : IC.toArray.all (·.oneCell') = true := by rw [hIC]; exact arr_oneJ (bat_one _)
    have HIC := Lib.hid (And.intro hIC (And.intro hok hbo))
    clear hIC hok hbo
    have hsa1 : IC.toArray.size = 2 := by rw [List.size_toArray]; exact hcl
    have hr1 := cells_rangeJ (hca.below (HX.out.2.trans (HK.out.1.bel.mono HX.out.2.size)))
    have bz := Blk.new wr #[.slice none 0 0, .slice none 0 0] 25
    have kz := (Below.refl wr.heap.size wr).alloc (Nat.le_refl _) (.cells #[.slice none 0 0, .slice none 0 0] 25)
    have hinf1 : (Tryd.prog.info? 25).map (·.size) = some IC.toArray.size := by rw [hsa1]; kernel_rfl
    have hinf1' : (Tryd.prog.info? 25).map (·.size) = some IC.length := by rw [hcl]; kernel_rfl
    have hsz1 : (#[.slice none 0 0, .slice none 0 0] : Array Value).size = IC.toArray.size := by rw [hsa1]; rfl
    have bx := bz.setAll IC.toArray hsz1
    have kx := below_setCells (B := wr.heap.size) (g := wr.heap.size) (Nat.le_refl _) IC.toArray.toList 0 (wr.alloc (.cells #[.slice none 0 0, .slice none 0 0] 25)) kz
    clear hca kz hcl hsa1
    go_upto_region 8 with (first | (refine wpList_load_mid rfl 25 (.tmp 32) rfl b' (o' + k * 2) rfl IC _ hr1 Tryd.underlying25 rfl hinf1' ?_) | (refine wpl_store rfl 25 (.tmp 10) (.tmp 33) rfl rfl rfl bz hsz1 hinf1 hone1 ?_))
    rw [List.toList_toArray] at kx bx
    change Blk ((wr.alloc (.cells #[.slice none 0 0, .slice none 0 0] 25)).setCells wr.heap.size 0 IC) wr.heap.size IC.toArray 25 at bx
    clear bz hr1
    generalize (wr.alloc (.cells #[.slice none 0 0, .slice none 0 0] 25)).setCells wr.heap.size 0 IC = w4 at *
    generalize hgx : wr.heap.size = gx at *
    have hb4 : Below wr.heap.size wr w4 := by rw [hgx]; exact kx
    have HJ4 := Lib.hid (HK.out.1.more hb4)
    have r1 := cells_rangeJ (w := w4) (b := gx) (o := 0) (cs := IC) (fun t ht => by rw [Nat.zero_add, bx.cell, List.getElem?_toArray])
    have HB4 := Lib.hid hb4
    clear hb4 kx bx
    have HXk := Lib.hid (HX.out.2.trans (HJ4.out.bel.mono HX.out.2.size))
    by_cases h8 : k < 8
    · have PC := jw_commit (X := X k) HJ4.out (HIC.out.2.1.below HXk.out) (HIC.out.2.2.mono fun g hg => by have := HX.out.2.size; omega)
      rw [← HIC.out.1] at PC
      have PC := Lib.hid PC
      have h8' : ((k : Int) < 8) := by omega
      go_wp2_with (first | (refine wpList_load_mid rfl 25 (.tmp 10) rfl gx 0 rfl IC _ r1 Tryd.underlying25 rfl hinf1' ?_))
      refine PC.out.mono ?_
      rintro e w5 ⟨o5, rfl, hJ5, _, _⟩
      have hcf := com_free (x := batX (X k)) HK.out.2.1 HK.out.2.2.2.1 (by have := HK.out.2.2.2.2; have := HK.out.2.2.1; omega)
      have H5 := Lib.hid (And.intro hJ5 hcf)
      clear hJ5 hcf PC r1
      go_wp2
      go_roundg (n - (k + 1))
      case measure => rw [HG.out]; omega
      case rel =>
        have hlen : (comS s (batX (X k))).2.xs.length ≤ min (k + 1) 8 * 1048588 := by
          have h1 := H5.out.2.2.2.2
          have h2 := HK.out.2.2.2.2
          rw [Nat.min_eq_left (by omega)] at h2
          rw [Nat.min_eq_left (by omega), Nat.add_mul]
          omega
        exact ⟨k + 1, o5, (comS s (batX (X k))).2, hlt, by go_num, rfl, H5.out.1, H5.out.2.1, H5.out.2.2.1.trans HK.out.2.2.1, H5.out.2.2.2.1, hlen⟩
    · have h8' : ¬ ((k : Int) < 8) := by omega
      clear r1
      go_wp2
      go_roundg (n - (k + 1))
      case measure => rw [HG.out]; omega
      case rel =>
        have hlen : s.xs.length ≤ min (k + 1) 8 * 1048588 := by
          have h2 := HK.out.2.2.2.2
          rw [Nat.min_eq_right (by omega)] at h2
          rw [Nat.min_eq_right (by omega)]
          exact h2
        exact ⟨k + 1, o, s, hlt, by go_num, rfl, HJ4.out, HK.out.2.1, HK.out.2.2.1, HK.out.2.2.2.1, hlen⟩
end Go.Proofs.YtbjbjgfjaopibaaDoor
end
