import Derived.Test.YtbjbjgfjaopibaaGreatDoorLv15
import Derived.Test.YtbjbjgfjaopibaaGreatDoorLv5
section
/- A journal with its tape in one word: what it says, plainly, and what each call makes of it. -/
namespace Go.Proofs.YtbjbjgfjaopibaaGreatDoor
open Go Go.RowKit
set_option linter.unusedSimpArgs false
set_option linter.unusedVariables false
set_option maxRecDepth 100000

/-- what a journal and its tape hold -/
structure JS where
  xs : List Int
  sy : Int
  ro : Int
  fu : Int
  l : KV
  n : Nat
  hd : Bool
/-- keys and values of lawful lengths -/
def KvOk (l : KV) : Prop := ∀ q ∈ l, q.1.length ≤ 100 ∧ q.2.length ≤ 60000 ∧ Byt q.2
theorem KvOk.nil : KvOk [] := fun q h => by cases h
theorem KvOk.del {l : KV} (h : KvOk l) (k : Key) : KvOk (delK l k) := fun q hq => h q (delK_mem.1 hq).1
theorem KvOk.put {l : KV} (h : KvOk l) {k : Key} {v : List Int} (hk : k.length ≤ 100 ∧ v.length ≤ 60000 ∧ Byt v) : KvOk (putK l k v) := fun q hq => by
  rcases insK_mem.1 hq with rfl | hq
  · exact hk
  · exact h.del k q hq
theorem KvOk.do {l : KV} (h : KvOk l) {x : BatD} (hx : Fit x) : KvOk (doK l x) := by
  have h1 : ∀ (ps : List (Key × List Int)) (l : KV), KvOk l → (∀ p ∈ ps, p.1.length ≤ 100 ∧ p.2.length ≤ 60000 ∧ Byt p.2) → KvOk (ps.foldl (fun l p => putK l p.1 p.2) l) := fun ps => by
    induction ps with
    | nil => exact fun l h _ => h
    | cons p t ih => exact fun l h hp => ih _ (h.put (hp p (by simp))) (fun q hq => hp q (List.mem_cons_of_mem _ hq))
  have h2 : ∀ (ks : List Key) (l : KV), KvOk l → KvOk (ks.foldl delK l) := fun ks => by
    induction ks with
    | nil => exact fun l h => h
    | cons k t ih => exact fun l h => ih _ (h.del k)
  exact h2 _ _ (h1 _ _ h fun p hp => ⟨(finePut_iff.1 (hx.1.fineP p hp)).1.2, (finePut_iff.1 (hx.1.fineP p hp)).2, hx.2 p hp⟩)
theorem KvOk.doAll {l : KV} (h : KvOk l) {xs : List BatD} (hx : ∀ x ∈ xs, Fit x) : KvOk (doAll l xs) := by
  induction xs generalizing l with
  | nil => exact h
  | cons x t ih => exact ih (h.do (hx x (by simp))) (fun y hy => hx y (List.mem_cons_of_mem _ hy))
structure JSOk (s : JS) : Prop where
  srt : Srt s.l
  kv : KvOk s.l
  byt : Byt s.xs
  len : s.xs.length ≤ 16777216
  r0 : 0 ≤ s.ro
  r1 : s.ro ≤ 16777216
  f0 : -1 ≤ s.fu
  f1 : s.fu ≤ 9223372036854775807
  y0 : 0 ≤ s.sy
  y1 : s.sy ≤ s.xs.length
  ll : s.l.length ≤ s.xs.length
  nn : s.n ≤ s.xs.length
open Classical in
/-- what a batch comes to -/
noncomputable def comS (s : JS) (x : BatD) : Int × JS :=
  if ¬ CanB x then (1, s) else if s.hd = true then (210, s) else
  if appE s.xs.length (frmX x).length s.ro s.fu ≠ 0 then (appE s.xs.length (frmX x).length s.ro s.fu, { s with fu := burn s.fu, hd := true }) else
  if burnE (burn s.fu) ≠ 0 then (burnE (burn s.fu), { s with xs := s.xs ++ frmX x, fu := burn (burn s.fu), hd := true }) else
  (0, { s with xs := s.xs ++ frmX x, sy := ((s.xs ++ frmX x).length : Int), fu := burn (burn s.fu), l := doK s.l x, n := s.n + 1 })
theorem app_room {n m : Nat} {ro fu : Int} (h : appE n m ro fu = 0) : (n + m : Int) ≤ ro := by
  unfold appE at h
  by_cases h1 : fu = 0
  · rw [if_pos h1] at h; cases h
  · rw [if_neg h1] at h
    by_cases h2 : ro - n < m
    · rw [if_pos h2] at h; cases h
    · omega
theorem JSOk.com {s : JS} (h : JSOk s) {x : BatD} (hx : CanB x → Fit x) : JSOk (comS s x).2 := by
  have b1 := burn_rng h.f0 h.f1
  have b2 := burn_rng b1.1 b1.2
  unfold comS
  by_cases hc : CanB x
  · have fx := hx hc
    rw [if_neg (fun f => f hc)]
    by_cases hh : s.hd = true
    · rw [if_pos hh]; exact h
    · rw [if_neg hh]
      by_cases ha : appE s.xs.length (frmX x).length s.ro s.fu = 0
      · rw [if_neg (fun f => f ha)]
        have hr := app_room ha
        have h1 := h.r1
        have hl : (s.xs ++ frmX x).length ≤ 16777216 := by rw [List.length_append]; omega
        have e : (s.xs ++ frmX x).length = s.xs.length + (frmX x).length := List.length_append
        have hy1 := h.y1
        have hll := h.ll
        have hnn := h.nn
        have hp := frmX_pos x
        by_cases hb : burnE (burn s.fu) = 0
        · rw [if_neg (fun f => f hb)]
          exact ⟨h.srt.do x, h.kv.do fx, h.byt.app (frmX_byt fx), hl, h.r0, h.r1, b2.1, b2.2, by show (0 : Int) ≤ ((s.xs ++ frmX x).length : Int); omega, Int.le_refl _, by show (doK s.l x).length ≤ (s.xs ++ frmX x).length; have := doK_le h.srt x; have := puts_le x; omega, by show s.n + 1 ≤ (s.xs ++ frmX x).length; omega⟩
        · rw [if_pos hb]
          exact ⟨h.srt, h.kv, h.byt.app (frmX_byt fx), hl, h.r0, h.r1, b2.1, b2.2, h.y0, by show s.sy ≤ ((s.xs ++ frmX x).length : Int); omega, by show s.l.length ≤ (s.xs ++ frmX x).length; omega, by show s.n ≤ (s.xs ++ frmX x).length; omega⟩
      · rw [if_pos ha]
        exact ⟨h.srt, h.kv, h.byt, h.len, h.r0, h.r1, b1.1, b1.2, h.y0, h.y1, h.ll, h.nn⟩
  · rw [if_pos hc]; exact h
/-- a journal and its tape in memory of their own -/
structure JW (W w : World) (j b p : Nat) (o : Option Nat) (s : JS) : Prop where
  bel : Below W.heap.size W w
  glob : Glob W
  ok : JSOk s
  tape : TapeAt w p s.xs s.sy s.ro s.fu o
  jat : JAt (fun g => W.heap.size ≤ g ∧ ¬ foot p o g ∧ g ≠ j ∧ g ≠ b) w j b p s.l s.n s.hd
  own : W.heap.size ≤ j ∧ W.heap.size ≤ b
  ft : ∀ k, foot p o k → W.heap.size ≤ k ∧ k ≠ j ∧ k ≠ b
section
variable {W w w' : World} {j b p : Nat} {o : Option Nat} {s : JS}
theorem JW.more (h : JW W w j b p o s) (hb : Below w.heap.size w w') : JW W w' j b p o s :=
  ⟨h.bel.trans (hb.mono h.bel.size), h.glob, h.ok, h.tape.keep (Keep.of_below (X := fun _ => False) hb) (fun _ _ h => h), h.jat.more hb, h.own, h.ft⟩
theorem JW.globw (h : JW W w j b p o s) : Glob w := h.glob.below h.bel
theorem foot_new {o o' : Option Nat} {p : Nat} {w : World} (h : o' = o ∨ ∃ g, o' = some g ∧ w.heap.size ≤ g) {k : Nat} (hk : foot p o' k) : foot p o k ∨ w.heap.size ≤ k := by
  rcases hk with e | e
  · exact .inl (.inl e)
  · rcases h with h | ⟨g, h, hg⟩
    · exact .inl (.inr (h ▸ e))
    · rw [h] at e; cases e; exact .inr hg
theorem jw_commitN {X : BatchD} (h : JW W w j b p o s) (hX : BatOk w X) (hXN : BatIn (fun g => ¬ foot p o g ∧ g ≠ j ∧ g ≠ b) X) :
    Calls Tryz.prog 13 #[.pointer (some ⟨j, 0, none⟩), .agg (batCs X).toArray] w fun e w' =>
      ∃ o', e = .returned (.int .i64 (comS s (batX X)).1) ∧ JW W w' j b p o' (comS s (batX X)).2 ∧ Keep (fun k => foot p o k ∨ k = j ∨ k = b) w w' ∧ (o' = o ∨ ∃ g, o' = some g ∧ w.heap.size ≤ g) := by
  have hok := h.ok
  have hlt := h.jat.lt
  have C := jcommit p j b X s.xs s.sy s.ro s.fu o s.l s.n s.hd _ w h.globw h.tape h.jat hok.srt hok.len hok.r0 hok.r1 hok.f0 hok.f1 (by have := hok.ll; have := hok.len; omega) (by have := hok.nn; have := hok.len; omega) hX
    hXN (fun k hk => ⟨fun hn => hn.2.1 hk, (h.ft k hk).2⟩)
  refine C.mono ?_
  rintro e w1 ⟨kk, hcase⟩
  have hok' : JSOk (comS s (batX X)).2 := hok.com fun hc => ⟨hc, fun q hq => by
    obtain ⟨i, hi, rfl⟩ := List.mem_map.1 hq
    obtain ⟨_, _, _, _, _, hok⟩ := hX.1.2.2.2 i (List.mem_range.1 hi)
    exact hok.2.1.range⟩
  have hbel : Below W.heap.size W w1 := h.bel.trans (kk.below h.bel.size (fun k hk => by
    rcases hk with hk | rfl | rfl
    · exact (h.ft k hk).1
    · exact h.own.1
    · exact h.own.2))
  rcases hcase with ⟨hc, rfl, hb⟩ | ⟨hc, hh, rfl, hb⟩ | ⟨hc, hh, o', ho', hcase⟩
  · have e1 : comS s (batX X) = (1, s) := by unfold comS; rw [if_pos hc]
    rw [e1] at hok' ⊢
    exact ⟨o, rfl, h.more hb, kk, .inl rfl⟩
  · have e1 : comS s (batX X) = (210, s) := by unfold comS; rw [if_neg (fun f => f hc), if_pos hh]
    rw [e1] at hok' ⊢
    exact ⟨o, rfl, h.more hb, kk, .inl rfl⟩
  · have hft : ∀ k, foot p o' k → W.heap.size ≤ k ∧ k ≠ j ∧ k ≠ b := fun k hk => by
      rcases foot_new ho' hk with hk | hk
      · exact h.ft k hk
      · have := h.bel.size; exact ⟨by omega, by omega, by omega⟩
    have mn : ∀ (l : KV) (n : Nat) (hd : Bool), JAt (fun g => ((W.heap.size ≤ g ∧ ¬ foot p o g ∧ g ≠ j ∧ g ≠ b) ∨ w.heap.size ≤ g) ∧ ¬ foot p o' g ∧ g ≠ j ∧ g ≠ b) w1 j b p l n hd → JAt (fun g => W.heap.size ≤ g ∧ ¬ foot p o' g ∧ g ≠ j ∧ g ≠ b) w1 j b p l n hd := fun l n hd hj =>
      hj.mono (fun g hg _ => ⟨by have := h.bel.size; rcases hg.1 with h1 | h1; · exact h1.1
                                 · omega, hg.2⟩) (fun g hg => hg.2.2)
    rcases hcase with ⟨ha, rfl, ht, hj⟩ | ⟨ha, hb, rfl, ht, hj⟩ | ⟨ha, hb, rfl, ht, hj⟩
    · have e1 : comS s (batX X) = (appE s.xs.length (frmX (batX X)).length s.ro s.fu, { s with fu := burn s.fu, hd := true }) := by
        unfold comS; rw [if_neg (fun f => f hc), if_neg (by rw [hh]; decide), if_pos ha]
      rw [e1] at hok' ⊢
      exact ⟨o', rfl, ⟨hbel, h.glob, hok', ht, mn _ _ _ hj, h.own, hft⟩, kk, ho'⟩
    · have e1 : comS s (batX X) = (burnE (burn s.fu), { s with xs := s.xs ++ frmX (batX X), fu := burn (burn s.fu), hd := true }) := by
        unfold comS; rw [if_neg (fun f => f hc), if_neg (by rw [hh]; decide), if_neg (fun f => f ha), if_pos hb]
      rw [e1] at hok' ⊢
      exact ⟨o', rfl, ⟨hbel, h.glob, hok', ht, mn _ _ _ hj, h.own, hft⟩, kk, ho'⟩
    · have e1 : comS s (batX X) = (0, { s with xs := s.xs ++ frmX (batX X), sy := ((s.xs ++ frmX (batX X)).length : Int), fu := burn (burn s.fu), l := doK s.l (batX X), n := s.n + 1 }) := by
        unfold comS; rw [if_neg (fun f => f hc), if_neg (by rw [hh]; decide), if_neg (fun f => f ha), if_neg (fun f => f hb)]
      rw [e1] at hok' ⊢
      refine ⟨o', rfl, ⟨hbel, h.glob, hok', ht, ?_, h.own, hft⟩, kk, ho'⟩
      have hj' := mn _ _ _ hj
      rw [show s.hd = false from hh]
      exact hj'
theorem jw_commit {X : BatchD} (h : JW W w j b p o s) (hX : BatOk w X) (hXN : BatIn (fun g => g < W.heap.size) X) :
    Calls Tryz.prog 13 #[.pointer (some ⟨j, 0, none⟩), .agg (batCs X).toArray] w fun e w' =>
      ∃ o', e = .returned (.int .i64 (comS s (batX X)).1) ∧ JW W w' j b p o' (comS s (batX X)).2 ∧ Keep (fun k => foot p o k ∨ k = j ∨ k = b) w w' ∧ (o' = o ∨ ∃ g, o' = some g ∧ w.heap.size ≤ g) :=
  jw_commitN h hX (hXN.mono fun g hg => ⟨fun hf => by have := (h.ft g hf).1; omega, by have := h.own.1; omega, by have := h.own.2; omega⟩)
/-- a tape in memory of its own -/
structure TW (W w : World) (p : Nat) (o : Option Nat) (xs : List Int) (sy ro fu : Int) : Prop where
  bel : Below W.heap.size W w
  glob : Glob W
  byt : Byt xs
  len : xs.length ≤ 16777216
  r0 : 0 ≤ ro
  r1 : ro ≤ 16777216
  f0 : -1 ≤ fu
  f1 : fu ≤ 9223372036854775807
  y0 : 0 ≤ sy
  y1 : sy ≤ xs.length
  tape : TapeAt w p xs sy ro fu o
  ft : ∀ k, foot p o k → W.heap.size ≤ k
open Classical in
/-- what a tape opens to -/
noncomputable def opnS (xs : List Int) (sy ro fu : Int) : Int × JS :=
  if (opens xs).2 < xs.length ∧ fu = 0 then (150, ⟨xs, sy, ro, 0, [], 0, false⟩)
  else (0, ⟨xs.take (opens xs).2, if (opens xs).2 = xs.length then sy else ((opens xs).2 : Int), ro, if (opens xs).2 = xs.length then fu else burn fu, doAll [] (opens xs).1, (opens xs).1.length, false⟩)
theorem JW.tw (h : JW W w j b p o s) : TW W w p o s.xs s.sy s.ro s.fu :=
  ⟨h.bel, h.glob, h.ok.byt, h.ok.len, h.ok.r0, h.ok.r1, h.ok.f0, h.ok.f1, h.ok.y0, h.ok.y1, h.tape, fun k hk => (h.ft k hk).1⟩
theorem jw_open {xs : List Int} {sy ro fu : Int} (h : TW W w p o xs sy ro fu) :
    Calls Tryz.prog 10 #[.pointer (some ⟨p, 0, none⟩)] w fun e w' => Keep (foot p o) w w' ∧
      (((opnS xs sy ro fu).1 = 150 ∧ e = .returned (.tuple #[.pointer none, .int .i64 150]) ∧ TW W w' p o xs sy ro fu) ∨
       ((opnS xs sy ro fu).1 = 0 ∧ ∃ j b, e = .returned (.tuple #[.pointer (some ⟨j, 0, none⟩), .int .i64 0]) ∧ w.heap.size ≤ j ∧ w.heap.size ≤ b ∧ JAt (fun g => w.heap.size ≤ g ∧ g ≠ j ∧ g ≠ b) w' j b p (opnS xs sy ro fu).2.l (opnS xs sy ro fu).2.n (opnS xs sy ro fu).2.hd ∧ JW W w' j b p o (opnS xs sy ro fu).2)) := by
  have C := jopen p xs sy ro fu o w (h.glob.below h.bel) h.tape h.byt h.len h.f0 h.f1 (fun x hx => by have := h.ft x hx; have := h.glob.lt; omega)
  refine C.mono ?_
  rintro e w1 ⟨DB, r, hfit, hr, hno, rfl, kk, hcase⟩
  have hbel : Below W.heap.size W w1 := h.bel.trans (kk.below h.bel.size (fun k hk => h.ft k hk))
  have hop := opens_eq hfit hr hno
  have hlen : (DB.flatMap frmX ++ r).length = (DB.flatMap frmX).length + r.length := List.length_append
  have hlr : r = [] ↔ (DB.flatMap frmX).length = (DB.flatMap frmX ++ r).length := by
    rw [hlen]
    constructor
    · intro h1; rw [h1]; rfl
    · intro h1; exact List.length_eq_zero_iff.1 (by omega)
  have hlr2 : r ≠ [] ↔ (DB.flatMap frmX).length < (DB.flatMap frmX ++ r).length := by rw [ne_eq, hlr, hlen]; omega
  refine ⟨kk, ?_⟩
  rcases hcase with ⟨h1, h2, rfl, ht⟩ | ⟨h1, j, b, rfl, hj, hb, hJ, ht⟩
  · refine .inl ⟨?_, rfl, ⟨hbel, h.glob, h.byt, h.len, h.r0, h.r1, h.f0, h.f1, h.y0, h.y1, h2 ▸ ht, h.ft⟩⟩
    unfold opnS
    rw [hop, if_pos ⟨hlr2.1 h1, h2⟩]
  · have e1 : opnS (DB.flatMap frmX ++ r) sy ro fu = (0, ⟨DB.flatMap frmX, if r = [] then sy else ((DB.flatMap frmX).length : Int), ro, if r = [] then fu else burn fu, doAll [] DB, DB.length, false⟩) := by
      unfold opnS
      rw [hop, if_neg (fun f => h1 ⟨hlr2.2 f.1, f.2⟩), List.take_left' rfl]
      simp only [hlr]
    rw [e1]
    have b1 := burn_rng h.f0 h.f1
    have hl := h.len
    have hd := doAll_le DB [] Srt.nil
    refine .inr ⟨rfl, j, b, rfl, hj, hb, hJ, ⟨hbel, h.glob, ⟨Srt.nil.doAll DB, KvOk.nil.doAll hfit, h.byt.left, by show (DB.flatMap frmX).length ≤ _; omega, h.r0, h.r1, ?_, ?_, ?_, ?_, by simpa using hd, flat_frm_len DB⟩, ht, ?_, ?_, ?_⟩⟩
    · show -1 ≤ (if r = [] then fu else burn fu); split
      · exact h.f0
      · exact b1.1
    · show (if r = [] then fu else burn fu) ≤ _; split
      · exact h.f1
      · exact b1.2
    · show 0 ≤ (if r = [] then sy else ((DB.flatMap frmX).length : Int)); split
      · exact h.y0
      · omega
    · show (if r = [] then sy else ((DB.flatMap frmX).length : Int)) ≤ ((DB.flatMap frmX).length : Int); split
      · next h0 => have := h.y1; rw [← hlr.1 h0] at this; exact this
      · omega
    · have hs := h.bel.size
      have hfl := h.tape.lt
      exact hJ.mono (fun g hg _ => ⟨by omega, fun hf => by have := hfl g hf; omega, hg.2⟩) (fun g hg => hg.2.2)
    · have hs := h.bel.size; exact ⟨by omega, by omega⟩
    · intro k hk
      have hfl := h.tape.lt k hk
      exact ⟨h.ft k hk, by omega, by omega⟩
end
end Go.Proofs.YtbjbjgfjaopibaaGreatDoor
end

section
/- Counts read: the document's Decode. -/
namespace Go.Proofs.YtbjbjgfjaopibaaGreatDoor
open Go Go.RowKit
set_option linter.unusedSimpArgs false
set_option linter.unusedVariables false
set_option maxRecDepth 100000

theorem encS_len_iff {b : Int} {W n : Nat} (hW : decW b = W) (h0 : 0 < W) (hn : n < 256 ^ W) : (encS n).length ≠ W + 1 ↔ n < decL b := by
  unfold decW at hW
  unfold decL
  by_cases h1 : b = 253
  · rw [if_pos h1] at hW ⊢
    subst hW
    rw [show (256 : Nat) ^ 2 = 65536 from rfl] at hn
    by_cases h : n < 253
    · rw [encS_1 h]; simp [h]
    · rw [encS_3 h (by omega), List.length_cons, leB_length]; simp [h]
  · rw [if_neg h1] at hW ⊢
    by_cases h2 : b = 254
    · rw [if_pos h2] at hW ⊢
      subst hW
      rw [show (256 : Nat) ^ 4 = 4294967296 from rfl] at hn
      by_cases h : n < 253
      · rw [encS_1 h]; simp; omega
      · by_cases h5 : n ≤ 65535
        · rw [encS_3 h h5, List.length_cons, leB_length]; simp; omega
        · rw [encS_5 h h5 (by omega), List.length_cons, leB_length]; simp; omega
    · rw [if_neg h2] at hW ⊢
      by_cases h3 : b = 255
      · rw [if_pos h3] at hW ⊢
        subst hW
        by_cases h : n < 253
        · rw [encS_1 h]; simp; omega
        · by_cases h5 : n ≤ 65535
          · rw [encS_3 h h5, List.length_cons, leB_length]; simp; omega
          · by_cases h6 : n ≤ 4294967295
            · rw [encS_5 h h5 h6, List.length_cons, leB_length]; simp; omega
            · rw [encS_9 h h5 h6, List.length_cons, leB_length]; simp; omega
      · rw [if_neg h3] at hW; omega
theorem DecPost.err {bs : List Int} {w w' : World} {E : Int} (h : decE bs = E) (hE : E ≠ 0) (hb : Below w.heap.size w w') : DecPost bs w (.returned (.tuple #[.int .u64 0, .slice none 0 0, .int .i64 E])) w' :=
  ⟨0, _, by rw [h], hb, fun h0 => absurd (h.symm.trans h0) hE, fun _ => ⟨rfl, rfl⟩⟩
theorem DecPost.ok {bs : List Int} {w w' : World} {x : Int} {v : Value} {o : Option Nat} (h : decE bs = 0) (hx : x = (decN bs : Int)) (hv : Row w' 5 v (decR bs) o) (ho : ∀ g, o = some g → w.heap.size ≤ g) (hb : Below w.heap.size w w') : DecPost bs w (.returned (.tuple #[.int .u64 x, v, .int .i64 0])) w' :=
  ⟨x, v, by rw [h], hb, fun _ => ⟨hx, o, hv, ho⟩, fun h1 => absurd h h1⟩
theorem rdec_nil (q : Option Addr) (c : Nat) (w : World) : Calls Tryz.prog 89 #[.slice q 0 c] w (DecPost [] w) := by
  go_enter Tryz.func89, Tryz.ntmps89
  go_wp2
  exact bodyPost_ret (results_tmp3 Tryz.results89 _ _ _) rfl (DecPost.err rfl (by decide) (Below.refl _ _))
/-- the copy of what stands behind -/
theorem tail_run (w w0 : World) (hb0 : Below w.heap.size w w0) (xs : List Int) (p : Option Addr) (c : Nat) (hx : Lib.BytesIn w p xs.length xs) (hl : xs.length ≤ 140737488355328) :
    ∃ p1 c1 w1 o1, (Builtin.append_ #[22, 22] 22 #[.slice (some ⟨w0.heap.size, 0, none⟩) 0 0, .slice p xs.length c]).run Tryz.prog (w0.alloc (.cells #[] 5)) = .ok (.slice p1 xs.length c1) w1 ∧ Row w1 5 (.slice p1 xs.length c1) xs o1 ∧ (∀ g, o1 = some g → w.heap.size ≤ g) ∧ Below w.heap.size w w1 := by
  obtain ⟨i0, hi, hz0, hz1, hz2⟩ := info_parts u8inf
  have K0 : Keep (fun _ => False) w (w0.alloc (.cells #[] 5)) := Keep.of_below (hb0.alloc hb0.size _)
  have R0 : Row (w0.alloc (.cells #[] 5)) 5 (.slice (some ⟨w0.heap.size, 0, none⟩) 0 0) [] (some w0.heap.size) := .inr ⟨w0.heap.size, 0, #[], rfl, rfl, Blk.new _ _ _, Nat.le_refl _, Nat.le_refl _, Nat.zero_le _, rfl⟩
  obtain ⟨v1, w1, o1, run1, R1, ho1, k1⟩ := row_appendL (P := Tryz.prog) 22 22 i0 (.int .u8 0) Tryz.underlying22 hi hz0 hz1 hz2 rfl R0 (c := c) (bytes_keep hx K0 (fun _ _ _ h => h)) (by simpa using hl)
  rw [List.nil_append] at R1
  obtain ⟨p1, c1, rfl, _⟩ := R1.form
  obtain ⟨g1, B1⟩ := own_step (w0 := w) (G := w.heap.size) rfl (hb0.alloc hb0.size _) (fun g hg => by cases hg; exact hb0.size) ho1 k1
  exact ⟨p1, c1, w1, o1, run1, R1, g1, B1⟩
set_option maxHeartbeats 3200000 in
theorem rdec0 (b : Int) (r : List Int) (pb po c : Nat) (w : World) (hc : ∀ i, i < r.length + 1 → w.cell? ⟨pb, po + i, none⟩ = some (.int .u8 ((b :: r).getD i 0))) (hr : 0 ≤ b ∧ b ≤ 255) (hlc : r.length + 1 ≤ c) (hcm : c ≤ 9223372036854775807) (hl47 : r.length + 1 ≤ 140737488355328) (hW : decW b = 0) :
    Calls Tryz.prog 89 #[.slice (some ⟨pb, po, none⟩) (r.length + 1) c] w (DecPost (b :: r) w) := by
  obtain ⟨n, rfl⟩ := Int.eq_ofNat_of_zero_le hr.1
  have h3 : n ≠ 253 ∧ n ≠ 254 ∧ n ≠ 255 := by
    unfold decW at hW
    refine ⟨fun h => ?_, fun h => ?_, fun h => ?_⟩ <;> subst h <;> simp at hW
  have hn : n < 253 := by omega
  have PE := Lib.hid (renc1 n hn w)
  have c0 := hc 0 (by omega)
  rw [List.getD_cons_zero, Nat.add_zero] at c0
  have hbw : IntKind.u64.wrap ((n : Nat) : Int) = (n : Int) := IntWalk.u64_in _ (by omega)
  have HE := Lib.hid (show decE (((n : Nat) : Int) :: r) = 0 from if_pos hW)
  have HN := Lib.hid (show ((n : Nat) : Int) = (decN (((n : Nat) : Int) :: r) : Int) from by unfold decN; simp only; rw [if_pos hW]; omega)
  have hdr : decR (((n : Nat) : Int) :: r) = r := by unfold decR; simp only; rw [hW, List.drop_zero]
  have HT := Lib.hid (show ∀ w0 : World, Below w.heap.size w w0 → _ from fun w0 hb => tail_run w w0 hb r (if c = 1 then some ⟨pb, po, none⟩ else some ⟨pb, po + 1, none⟩) (c - 1) (by
    have := bytes_in_drop (w := w) hc (by simp) 1 (if c = 1 then some ⟨pb, po, none⟩ else some ⟨pb, po + 1, none⟩) (fun h => by rw [if_neg (by omega)])
    simpa using this) (by omega))
  have HDR := Lib.hid hdr
  have e1 : (((n : Nat) : Int) == 253) = false := beq_false_of_ne (by omega)
  have e2 : (((n : Nat) : Int) == 254) = false := beq_false_of_ne (by omega)
  have e3 : (((n : Nat) : Int) == 255) = false := beq_false_of_ne (by omega)
  have k0 : ¬ ((r.length : Int) + 1 < 1) := by omega
  have k1 : decide ((r.length : Int) + 1 < 1) = false := decide_eq_false (by omega)
  clear hc hW hr h3 hn hdr
  go_enter Tryz.func89, Tryz.ntmps89
  go_wp2_with fail
  refine PE.out.mono ?_
  rintro e w1 ⟨p1, c1, o1, rfl, _, _, hb1⟩
  obtain ⟨p2, c2, w2, o2, run2, R2, ho2, hb2⟩ := HT.out w1 hb1
  have H2 := Lib.hid (And.intro R2 (And.intro ho2 hb2))
  clear R2 ho2 hb2 hb1
  go_wp2_with (at_builtin; refine wpl_append rfl _ _ 22 rfl rfl rfl run2 ?_)
  all_goals exact bodyPost_ret (results_tmp3 Tryz.results89 _ _ _) rfl (DecPost.ok HE.out HN.out (by rw [HDR.out]; exact H2.out.1) H2.out.2.1 H2.out.2.2)
set_option maxHeartbeats 3200000 in
theorem rdec2s (r : List Int) (pb po c : Nat) (w : World) (hc : ∀ i, i < r.length + 1 → w.cell? ⟨pb, po + i, none⟩ = some (.int .u8 ((253 :: r).getD i 0))) (hlc : r.length + 1 ≤ c) (hcm : c ≤ 9223372036854775807) (hl47 : r.length + 1 ≤ 140737488355328) (hs : r.length < 2) :
    Calls Tryz.prog 89 #[.slice (some ⟨pb, po, none⟩) (r.length + 1) c] w (DecPost (253 :: r) w) := by
  have c0 := hc 0 (by omega)
  rw [List.getD_cons_zero, Nat.add_zero] at c0
  have HE := Lib.hid (show decE (253 :: r) = 50 from by rw [decE_W (W := 2) rfl (by decide), if_pos hs])
  have k1 : decide ((r.length : Int) + 1 < 3) = true := decide_eq_true (by omega)
  have k2 : (r.length : Int) + 1 < 3 := by omega
  clear hc hs
  go_enter Tryz.func89, Tryz.ntmps89
  go_wp2
  exact bodyPost_ret (results_tmp3 Tryz.results89 _ _ _) rfl (DecPost.err HE.out (by decide) (Below.refl _ _))
set_option maxHeartbeats 3200000 in
theorem rdec2 (r : List Int) (pb po c : Nat) (w : World) (hc : ∀ i, i < r.length + 1 → w.cell? ⟨pb, po + i, none⟩ = some (.int .u8 ((253 :: r).getD i 0))) (hr : ∀ y ∈ r, 0 ≤ y ∧ y ≤ 255) (hlc : r.length + 1 ≤ c) (hcm : c ≤ 9223372036854775807) (hl47 : r.length + 1 ≤ 140737488355328) (hs : 2 ≤ r.length) :
    Calls Tryz.prog 89 #[.slice (some ⟨pb, po, none⟩) (r.length + 1) c] w (DecPost (253 :: r) w) := by
  have c0 := hc 0 (by omega)
  rw [List.getD_cons_zero, Nat.add_zero] at c0
  have hT : (r.take 2).length = 2 := by rw [List.length_take]; omega
  have hRT : ∀ y ∈ r.take 2, 0 ≤ y ∧ y ≤ 255 := fun y hy => hr y (List.mem_of_mem_take hy)
  have PN := rnum (r.take 2) (some ⟨pb, po + 1, none⟩) (c - 1) w (fun _ => ⟨pb, po + 1, rfl, fun k hk => by
    rw [hT] at hk
    rw [Nat.add_assoc, hc (1 + k) (by omega), Nat.add_comm 1 k, List.getD_cons_succ]
    congr 2
    rw [List.getD_eq_getElem?_getD, List.getD_eq_getElem?_getD, List.getElem?_take, if_pos hk]⟩) hRT (by rw [hT]; decide)
  rw [hT] at PN
  have hlt := leN_lt (r.take 2) hRT
  rw [hT] at hlt
  have hiff := encS_len_iff (b := 253) (W := 2) rfl (by decide) hlt
  have HE := Lib.hid (show decE (253 :: r) = if leN (r.take 2) < decL 253 then 51 else 0 from by rw [decE_W (W := 2) rfl (by decide), if_neg (by omega)])
  have HN := Lib.hid (decN_W (r := r) (b := 253) (W := 2) rfl (by decide))
  have hdr : decR (253 :: r) = r.drop 2 := rfl
  have hdl : (r.drop 2).length = r.length - 2 := List.length_drop
  have HT := Lib.hid (show ∀ w0 : World, Below w.heap.size w w0 → _ from fun w0 hb => tail_run w w0 hb (r.drop 2) (if c = 3 then some ⟨pb, po, none⟩ else some ⟨pb, po + 3, none⟩) (c - 3) (by
    have := bytes_in_drop (w := w) hc (by simp) 3 (if c = 3 then some ⟨pb, po, none⟩ else some ⟨pb, po + 3, none⟩) (fun h => by rw [if_neg (by omega)])
    simpa using this) (by rw [hdl]; omega))
  rw [hdl] at HT
  have HDR := Lib.hid hdr
  have PNN := Lib.hid PN
  obtain ⟨n, hn⟩ : ∃ n, n = leN (r.take 2) := ⟨_, rfl⟩
  rw [← hn] at hiff HE HN PNN
  have PE := Lib.hid (fun w => renc n (by rw [hn]; exact Nat.lt_of_lt_of_le hlt (by decide)) w)
  obtain ⟨N, hNN⟩ : ∃ N, N = r.length := ⟨_, rfl⟩
  rw [← hNN] at hlc HT hs ⊢
  have k1 : decide ((N : Int) + 1 < 3) = false := decide_eq_false (by omega)
  have k2 : ¬ ((N : Int) + 1 < 3) := by omega
  have k3 : (3 : Int) ≤ (c : Int) := by omega
  have k4 : (3 : Int) ≤ (N : Int) + 1 := by omega
  have k5 : (N : Int) + 1 ≤ (c : Int) := by omega
  have k6 : N + 1 - 3 = N - 2 := by omega
  have k7 : ¬ c = 1 := by omega
  have HS := Lib.hid hs
  clear hc hr hs hn hT hRT hlt hdr hdl PN hNN
  by_cases hlL : n < decL 253
  · have HE2 := Lib.hid (show decE (253 :: r) = 51 from by rw [HE.out, if_pos hlL])
    have hne := hiff.2 hlL
    generalize hm : (encS n).length = m at *
    have hmm : ((m : Int) != 3) = true := by rw [bne_iff_ne]; omega
    clear hiff hlL HE hne
    go_enter Tryz.func89, Tryz.ntmps89
    go_wp2_with fail
    refine PNN.out.mono ?_
    rintro e w1 ⟨rfl, rfl⟩
    go_wp2_with fail
    refine (PE.out _).mono ?_
    rintro e w1 ⟨p1, c1, o1, rfl, _, _, hb1⟩
    have HB := Lib.hid hb1
    clear hb1
    go_wp2
    exact bodyPost_ret (results_tmp3 Tryz.results89 _ _ _) rfl (DecPost.err HE2.out (by decide) HB.out)
  · have HE2 := Lib.hid (show decE (253 :: r) = 0 from by rw [HE.out, if_neg hlL])
    have hne : (encS n).length = 2 + 1 := by
      rcases Nat.decEq (encS n).length (2 + 1) with h | h
      · exact absurd (hiff.1 h) hlL
      · exact h
    have HN2 := Lib.hid (show (n : Int) = (decN (253 :: r) : Int) from by rw [HN.out])
    rw [hne] at PE
    clear hiff hlL HE hne HN
    go_enter Tryz.func89, Tryz.ntmps89
    go_wp2_with fail
    refine PNN.out.mono ?_
    rintro e w1 ⟨rfl, rfl⟩
    go_wp2_with fail
    refine (PE.out _).mono ?_
    rintro e w1 ⟨p1, c1, o1, rfl, _, _, hb1⟩
    obtain ⟨p2, c2, w2, o2, run2, R2, ho2, hb2⟩ := HT.out w1 hb1
    have H2 := Lib.hid (And.intro R2 (And.intro ho2 hb2))
    clear R2 ho2 hb2 hb1
    go_wp2_with (at_builtin; refine wpl_append rfl _ _ 22 rfl rfl rfl run2 ?_)
    all_goals exact bodyPost_ret (results_tmp3 Tryz.results89 _ _ _) rfl (DecPost.ok HE2.out HN2.out (by rw [HDR.out]; exact H2.out.1) H2.out.2.1 H2.out.2.2)
set_option maxHeartbeats 3200000 in
theorem rdec4s (r : List Int) (pb po c : Nat) (w : World) (hc : ∀ i, i < r.length + 1 → w.cell? ⟨pb, po + i, none⟩ = some (.int .u8 ((254 :: r).getD i 0))) (hlc : r.length + 1 ≤ c) (hcm : c ≤ 9223372036854775807) (hl47 : r.length + 1 ≤ 140737488355328) (hs : r.length < 4) :
    Calls Tryz.prog 89 #[.slice (some ⟨pb, po, none⟩) (r.length + 1) c] w (DecPost (254 :: r) w) := by
  have c0 := hc 0 (by omega)
  rw [List.getD_cons_zero, Nat.add_zero] at c0
  have HE := Lib.hid (show decE (254 :: r) = 50 from by rw [decE_W (W := 4) rfl (by decide), if_pos hs])
  have k1 : decide ((r.length : Int) + 1 < 5) = true := decide_eq_true (by omega)
  have k2 : (r.length : Int) + 1 < 5 := by omega
  clear hc hs
  go_enter Tryz.func89, Tryz.ntmps89
  go_wp2
  exact bodyPost_ret (results_tmp3 Tryz.results89 _ _ _) rfl (DecPost.err HE.out (by decide) (Below.refl _ _))
set_option maxHeartbeats 3200000 in
theorem rdec4 (r : List Int) (pb po c : Nat) (w : World) (hc : ∀ i, i < r.length + 1 → w.cell? ⟨pb, po + i, none⟩ = some (.int .u8 ((254 :: r).getD i 0))) (hr : ∀ y ∈ r, 0 ≤ y ∧ y ≤ 255) (hlc : r.length + 1 ≤ c) (hcm : c ≤ 9223372036854775807) (hl47 : r.length + 1 ≤ 140737488355328) (hs : 4 ≤ r.length) :
    Calls Tryz.prog 89 #[.slice (some ⟨pb, po, none⟩) (r.length + 1) c] w (DecPost (254 :: r) w) := by
  have c0 := hc 0 (by omega)
  rw [List.getD_cons_zero, Nat.add_zero] at c0
  have hT : (r.take 4).length = 4 := by rw [List.length_take]; omega
  have hRT : ∀ y ∈ r.take 4, 0 ≤ y ∧ y ≤ 255 := fun y hy => hr y (List.mem_of_mem_take hy)
  have PN := rnum (r.take 4) (some ⟨pb, po + 1, none⟩) (c - 1) w (fun _ => ⟨pb, po + 1, rfl, fun k hk => by
    rw [hT] at hk
    rw [Nat.add_assoc, hc (1 + k) (by omega), Nat.add_comm 1 k, List.getD_cons_succ]
    congr 2
    rw [List.getD_eq_getElem?_getD, List.getD_eq_getElem?_getD, List.getElem?_take, if_pos hk]⟩) hRT (by rw [hT]; decide)
  rw [hT] at PN
  have hlt := leN_lt (r.take 4) hRT
  rw [hT] at hlt
  have hiff := encS_len_iff (b := 254) (W := 4) rfl (by decide) hlt
  have HE := Lib.hid (show decE (254 :: r) = if leN (r.take 4) < decL 254 then 51 else 0 from by rw [decE_W (W := 4) rfl (by decide), if_neg (by omega)])
  have HN := Lib.hid (decN_W (r := r) (b := 254) (W := 4) rfl (by decide))
  have hdr : decR (254 :: r) = r.drop 4 := rfl
  have hdl : (r.drop 4).length = r.length - 4 := List.length_drop
  have HT := Lib.hid (show ∀ w0 : World, Below w.heap.size w w0 → _ from fun w0 hb => tail_run w w0 hb (r.drop 4) (if c = 5 then some ⟨pb, po, none⟩ else some ⟨pb, po + 5, none⟩) (c - 5) (by
    have := bytes_in_drop (w := w) hc (by simp) 5 (if c = 5 then some ⟨pb, po, none⟩ else some ⟨pb, po + 5, none⟩) (fun h => by rw [if_neg (by omega)])
    simpa using this) (by rw [hdl]; omega))
  rw [hdl] at HT
  have HDR := Lib.hid hdr
  have PNN := Lib.hid PN
  obtain ⟨n, hn⟩ : ∃ n, n = leN (r.take 4) := ⟨_, rfl⟩
  rw [← hn] at hiff HE HN PNN
  have PE := Lib.hid (fun w => renc n (by rw [hn]; exact Nat.lt_of_lt_of_le hlt (by decide)) w)
  obtain ⟨N, hNN⟩ : ∃ N, N = r.length := ⟨_, rfl⟩
  rw [← hNN] at hlc HT hs ⊢
  have k1 : decide ((N : Int) + 1 < 5) = false := decide_eq_false (by omega)
  have k2 : ¬ ((N : Int) + 1 < 5) := by omega
  have k3 : (5 : Int) ≤ (c : Int) := by omega
  have k4 : (5 : Int) ≤ (N : Int) + 1 := by omega
  have k5 : (N : Int) + 1 ≤ (c : Int) := by omega
  have k6 : N + 1 - 5 = N - 4 := by omega
  have k7 : ¬ c = 1 := by omega
  have HS := Lib.hid hs
  clear hc hr hs hn hT hRT hlt hdr hdl PN hNN
  by_cases hlL : n < decL 254
  · have HE2 := Lib.hid (show decE (254 :: r) = 51 from by rw [HE.out, if_pos hlL])
    have hne := hiff.2 hlL
    generalize hm : (encS n).length = m at *
    have hmm : ((m : Int) != 5) = true := by rw [bne_iff_ne]; omega
    clear hiff hlL HE hne
    go_enter Tryz.func89, Tryz.ntmps89
    go_wp2_with fail
    refine PNN.out.mono ?_
    rintro e w1 ⟨rfl, rfl⟩
    go_wp2_with fail
    refine (PE.out _).mono ?_
    rintro e w1 ⟨p1, c1, o1, rfl, _, _, hb1⟩
    have HB := Lib.hid hb1
    clear hb1
    go_wp2
    exact bodyPost_ret (results_tmp3 Tryz.results89 _ _ _) rfl (DecPost.err HE2.out (by decide) HB.out)
  · have HE2 := Lib.hid (show decE (254 :: r) = 0 from by rw [HE.out, if_neg hlL])
    have hne : (encS n).length = 4 + 1 := by
      rcases Nat.decEq (encS n).length (4 + 1) with h | h
      · exact absurd (hiff.1 h) hlL
      · exact h
    have HN2 := Lib.hid (show (n : Int) = (decN (254 :: r) : Int) from by rw [HN.out])
    rw [hne] at PE
    clear hiff hlL HE hne HN
    go_enter Tryz.func89, Tryz.ntmps89
    go_wp2_with fail
    refine PNN.out.mono ?_
    rintro e w1 ⟨rfl, rfl⟩
    go_wp2_with fail
    refine (PE.out _).mono ?_
    rintro e w1 ⟨p1, c1, o1, rfl, _, _, hb1⟩
    obtain ⟨p2, c2, w2, o2, run2, R2, ho2, hb2⟩ := HT.out w1 hb1
    have H2 := Lib.hid (And.intro R2 (And.intro ho2 hb2))
    clear R2 ho2 hb2 hb1
    go_wp2_with (at_builtin; refine wpl_append rfl _ _ 22 rfl rfl rfl run2 ?_)
    all_goals exact bodyPost_ret (results_tmp3 Tryz.results89 _ _ _) rfl (DecPost.ok HE2.out HN2.out (by rw [HDR.out]; exact H2.out.1) H2.out.2.1 H2.out.2.2)
set_option maxHeartbeats 3200000 in
theorem rdec8s (r : List Int) (pb po c : Nat) (w : World) (hc : ∀ i, i < r.length + 1 → w.cell? ⟨pb, po + i, none⟩ = some (.int .u8 ((255 :: r).getD i 0))) (hlc : r.length + 1 ≤ c) (hcm : c ≤ 9223372036854775807) (hl47 : r.length + 1 ≤ 140737488355328) (hs : r.length < 8) :
    Calls Tryz.prog 89 #[.slice (some ⟨pb, po, none⟩) (r.length + 1) c] w (DecPost (255 :: r) w) := by
  have c0 := hc 0 (by omega)
  rw [List.getD_cons_zero, Nat.add_zero] at c0
  have HE := Lib.hid (show decE (255 :: r) = 50 from by rw [decE_W (W := 8) rfl (by decide), if_pos hs])
  have k1 : decide ((r.length : Int) + 1 < 9) = true := decide_eq_true (by omega)
  have k2 : (r.length : Int) + 1 < 9 := by omega
  clear hc hs
  go_enter Tryz.func89, Tryz.ntmps89
  go_wp2
  exact bodyPost_ret (results_tmp3 Tryz.results89 _ _ _) rfl (DecPost.err HE.out (by decide) (Below.refl _ _))
set_option maxHeartbeats 3200000 in
theorem rdec8 (r : List Int) (pb po c : Nat) (w : World) (hc : ∀ i, i < r.length + 1 → w.cell? ⟨pb, po + i, none⟩ = some (.int .u8 ((255 :: r).getD i 0))) (hr : ∀ y ∈ r, 0 ≤ y ∧ y ≤ 255) (hlc : r.length + 1 ≤ c) (hcm : c ≤ 9223372036854775807) (hl47 : r.length + 1 ≤ 140737488355328) (hs : 8 ≤ r.length) :
    Calls Tryz.prog 89 #[.slice (some ⟨pb, po, none⟩) (r.length + 1) c] w (DecPost (255 :: r) w) := by
  have c0 := hc 0 (by omega)
  rw [List.getD_cons_zero, Nat.add_zero] at c0
  have hT : (r.take 8).length = 8 := by rw [List.length_take]; omega
  have hRT : ∀ y ∈ r.take 8, 0 ≤ y ∧ y ≤ 255 := fun y hy => hr y (List.mem_of_mem_take hy)
  have PN := rnum (r.take 8) (some ⟨pb, po + 1, none⟩) (c - 1) w (fun _ => ⟨pb, po + 1, rfl, fun k hk => by
    rw [hT] at hk
    rw [Nat.add_assoc, hc (1 + k) (by omega), Nat.add_comm 1 k, List.getD_cons_succ]
    congr 2
    rw [List.getD_eq_getElem?_getD, List.getD_eq_getElem?_getD, List.getElem?_take, if_pos hk]⟩) hRT (by rw [hT]; decide)
  rw [hT] at PN
  have hlt := leN_lt (r.take 8) hRT
  rw [hT] at hlt
  have hiff := encS_len_iff (b := 255) (W := 8) rfl (by decide) hlt
  have HE := Lib.hid (show decE (255 :: r) = if leN (r.take 8) < decL 255 then 51 else 0 from by rw [decE_W (W := 8) rfl (by decide), if_neg (by omega)])
  have HN := Lib.hid (decN_W (r := r) (b := 255) (W := 8) rfl (by decide))
  have hdr : decR (255 :: r) = r.drop 8 := rfl
  have hdl : (r.drop 8).length = r.length - 8 := List.length_drop
  have HT := Lib.hid (show ∀ w0 : World, Below w.heap.size w w0 → _ from fun w0 hb => tail_run w w0 hb (r.drop 8) (if c = 9 then some ⟨pb, po, none⟩ else some ⟨pb, po + 9, none⟩) (c - 9) (by
    have := bytes_in_drop (w := w) hc (by simp) 9 (if c = 9 then some ⟨pb, po, none⟩ else some ⟨pb, po + 9, none⟩) (fun h => by rw [if_neg (by omega)])
    simpa using this) (by rw [hdl]; omega))
  rw [hdl] at HT
  have HDR := Lib.hid hdr
  have PNN := Lib.hid PN
  obtain ⟨n, hn⟩ : ∃ n, n = leN (r.take 8) := ⟨_, rfl⟩
  rw [← hn] at hiff HE HN PNN
  have PE := Lib.hid (fun w => renc n (by rw [hn]; exact Nat.lt_of_lt_of_le hlt (by decide)) w)
  obtain ⟨N, hNN⟩ : ∃ N, N = r.length := ⟨_, rfl⟩
  rw [← hNN] at hlc HT hs ⊢
  have k1 : decide ((N : Int) + 1 < 9) = false := decide_eq_false (by omega)
  have k2 : ¬ ((N : Int) + 1 < 9) := by omega
  have k3 : (9 : Int) ≤ (c : Int) := by omega
  have k4 : (9 : Int) ≤ (N : Int) + 1 := by omega
  have k5 : (N : Int) + 1 ≤ (c : Int) := by omega
  have k6 : N + 1 - 9 = N - 8 := by omega
  have k7 : ¬ c = 1 := by omega
  have HS := Lib.hid hs
  clear hc hr hs hn hT hRT hlt hdr hdl PN hNN
  by_cases hlL : n < decL 255
  · have HE2 := Lib.hid (show decE (255 :: r) = 51 from by rw [HE.out, if_pos hlL])
    have hne := hiff.2 hlL
    generalize hm : (encS n).length = m at *
    have hmm : ((m : Int) != 9) = true := by rw [bne_iff_ne]; omega
    clear hiff hlL HE hne
    go_enter Tryz.func89, Tryz.ntmps89
    go_wp2_with fail
    refine PNN.out.mono ?_
    rintro e w1 ⟨rfl, rfl⟩
    go_wp2_with fail
    refine (PE.out _).mono ?_
    rintro e w1 ⟨p1, c1, o1, rfl, _, _, hb1⟩
    have HB := Lib.hid hb1
    clear hb1
    go_wp2
    exact bodyPost_ret (results_tmp3 Tryz.results89 _ _ _) rfl (DecPost.err HE2.out (by decide) HB.out)
  · have HE2 := Lib.hid (show decE (255 :: r) = 0 from by rw [HE.out, if_neg hlL])
    have hne : (encS n).length = 8 + 1 := by
      rcases Nat.decEq (encS n).length (8 + 1) with h | h
      · exact absurd (hiff.1 h) hlL
      · exact h
    have HN2 := Lib.hid (show (n : Int) = (decN (255 :: r) : Int) from by rw [HN.out])
    rw [hne] at PE
    clear hiff hlL HE hne HN
    go_enter Tryz.func89, Tryz.ntmps89
    go_wp2_with fail
    refine PNN.out.mono ?_
    rintro e w1 ⟨rfl, rfl⟩
    go_wp2_with fail
    refine (PE.out _).mono ?_
    rintro e w1 ⟨p1, c1, o1, rfl, _, _, hb1⟩
    obtain ⟨p2, c2, w2, o2, run2, R2, ho2, hb2⟩ := HT.out w1 hb1
    have H2 := Lib.hid (And.intro R2 (And.intro ho2 hb2))
    clear R2 ho2 hb2 hb1
    go_wp2_with (at_builtin; refine wpl_append rfl _ _ 22 rfl rfl rfl run2 ?_)
    all_goals exact bodyPost_ret (results_tmp3 Tryz.results89 _ _ _) rfl (DecPost.ok HE2.out HN2.out (by rw [HDR.out]; exact H2.out.1) H2.out.2.1 H2.out.2.2)
theorem rdecode (bs : List Int) (q : Option Addr) (c : Nat) (w : World) (hy : Lib.BytesIn w q bs.length bs) (hr : ∀ y ∈ bs, 0 ≤ y ∧ y ≤ 255) (hc : bs.length ≤ c) (hcm : c ≤ 9223372036854775807) (hl47 : bs.length ≤ 140737488355328) :
    Calls Tryz.prog 89 #[.slice q bs.length c] w (DecPost bs w) := by
  cases bs with
  | nil => exact rdec_nil q c w
  | cons b r =>
    obtain ⟨pb, po, rfl, hcl⟩ := hy.at (by simp)
    rw [List.length_cons] at hcl hc hl47 ⊢
    have hr' : ∀ y ∈ r, 0 ≤ y ∧ y ≤ 255 := fun y hy => hr y (List.mem_cons_of_mem _ hy)
    by_cases h1 : b = 253
    · subst h1
      by_cases hs : r.length < 2
      · exact rdec2s r pb po c w hcl hc hcm hl47 hs
      · exact rdec2 r pb po c w hcl hr' hc hcm hl47 (by omega)
    · by_cases h2 : b = 254
      · subst h2
        by_cases hs : r.length < 4
        · exact rdec4s r pb po c w hcl hc hcm hl47 hs
        · exact rdec4 r pb po c w hcl hr' hc hcm hl47 (by omega)
      · by_cases h3 : b = 255
        · subst h3
          by_cases hs : r.length < 8
          · exact rdec8s r pb po c w hcl hc hcm hl47 hs
          · exact rdec8 r pb po c w hcl hr' hc hcm hl47 (by omega)
        · exact rdec0 b r pb po c w hcl (hr b (List.mem_cons_self ..)) hc hcm hl47 (by unfold decW; rw [if_neg h1, if_neg h2, if_neg h3])
end Go.Proofs.YtbjbjgfjaopibaaGreatDoor
end
