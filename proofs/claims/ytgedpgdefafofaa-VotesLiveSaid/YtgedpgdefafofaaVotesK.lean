/- The walks of layer 18: what the laws share. -/
import Derived.Test.YtgedpgdefafofaaVotesJ
import Derived.Test.YtgedpgdefafofaaVotesOpen
namespace Go.Proofs.Ytgedpgdefafofaa
open Go Go.RowKit
set_option linter.unusedSimpArgs false

theorem pleave_yes (p : Nat) (L : VL) (bm : Nat) (o : Option Nat) (x : Int) (w : World) (h : VAt w p L bm o) (hx : (Lit.int .i64 x).wf = true) (hl : L.length ≤ 1000000) (hd : (L.map Prod.fst).Nodup) (hb : vhas L x = true) :
    Calls Try.prog 6 #[.pointer (some ⟨p, 0, none⟩), .int .i64 x] w fun e w' => e = .returned (.int .i64 0) ∧ VGrew w w' p bm (vdel L x) o := by
  have := pleave p L bm o x w h hx hl hd
  simp only [hb, if_true, Bool.false_eq_true, if_false] at this
  exact this
theorem pleave_no (p : Nat) (L : VL) (bm : Nat) (o : Option Nat) (x : Int) (w : World) (h : VAt w p L bm o) (hx : (Lit.int .i64 x).wf = true) (hl : L.length ≤ 1000000) (hd : (L.map Prod.fst).Nodup) (hb : vhas L x = false) :
    Calls Try.prog 6 #[.pointer (some ⟨p, 0, none⟩), .int .i64 x] w fun e w' => e = .returned (.int .i64 200) ∧ VGrew w w' p bm (vdel L x) o := by
  have := pleave p L bm o x w h hx hl hd
  simp only [hb, if_true, Bool.false_eq_true, if_false] at this
  exact this
theorem qleave_yes (p : Nat) (L : VL) (o : Option Nat) (x : Int) (w : World) (h : QAt w p L o) (hl : L.length ≤ 10000) (hb : vhas L x = true) :
    Calls Try.prog 11 #[.pointer (some ⟨p, 0, none⟩), .int .i64 x] w fun e w' => e = .returned (.int .i64 0) ∧ QGrew w w' p (vdel L x) o := by
  have := qleave p L o x w h hl
  simp only [hb, if_true, Bool.false_eq_true, if_false] at this
  exact this
theorem qleave_no (p : Nat) (L : VL) (o : Option Nat) (x : Int) (w : World) (h : QAt w p L o) (hl : L.length ≤ 10000) (hb : vhas L x = false) :
    Calls Try.prog 11 #[.pointer (some ⟨p, 0, none⟩), .int .i64 x] w fun e w' => e = .returned (.int .i64 200) ∧ QGrew w w' p (vdel L x) o := by
  have := qleave p L o x w h hl
  simp only [hb, if_true, Bool.false_eq_true, if_false] at this
  exact this
theorem pvote_yes (p : Nat) (L : VL) (bm : Nat) (o : Option Nat) (x : Int) (n : Nat) (w : World) (h : VAt w p L bm o) (hx : (Lit.int .i64 x).wf = true) (hl : L.length ≤ 1000000) (hb : vhas L x = true) :
    Calls Try.prog 7 #[.pointer (some ⟨p, 0, none⟩), .int .i64 x, hv n] w fun e w' => e = .returned (.int .i64 200) ∧ VGrew w w' p bm L o := by
  have := pvote p L bm o x n w h hx hl
  simp only [hb, if_true, Bool.false_eq_true, if_false] at this
  exact this
theorem pvote_no (p : Nat) (L : VL) (bm : Nat) (o : Option Nat) (x : Int) (n : Nat) (w : World) (h : VAt w p L bm o) (hx : (Lit.int .i64 x).wf = true) (hl : L.length ≤ 1000000) (hb : vhas L x = false) :
    Calls Try.prog 7 #[.pointer (some ⟨p, 0, none⟩), .int .i64 x, hv n] w fun e w' => e = .returned (.int .i64 0) ∧ VGrew w w' p bm (L ++ [(x, n)]) o := by
  have := pvote p L bm o x n w h hx hl
  simp only [hb, if_true, Bool.false_eq_true, if_false] at this
  exact this
theorem qvote_yes (p : Nat) (L : VL) (o : Option Nat) (x : Int) (n : Nat) (w : World) (h : QAt w p L o) (hl : L.length ≤ 10000) (hb : vhas L x = true) :
    Calls Try.prog 12 #[.pointer (some ⟨p, 0, none⟩), .int .i64 x, hv n] w fun e w' => e = .returned (.int .i64 200) ∧ QGrew w w' p L o := by
  have := qvote p L o x n w h hl
  simp only [hb, if_true, Bool.false_eq_true, if_false] at this
  exact this
theorem qvote_no (p : Nat) (L : VL) (o : Option Nat) (x : Int) (n : Nat) (w : World) (h : QAt w p L o) (hl : L.length ≤ 10000) (hb : vhas L x = false) :
    Calls Try.prog 12 #[.pointer (some ⟨p, 0, none⟩), .int .i64 x, hv n] w fun e w' => e = .returned (.int .i64 0) ∧ QGrew w w' p (L ++ [(x, n)]) o := by
  have := qvote p L o x n w h hl
  simp only [hb, if_true, Bool.false_eq_true, if_false] at this
  exact this
/-- the map of who is in -/
def fin (L : VL) (x : Int) : Option Value := if vhas L x then some (.bool true) else none
theorem fin_val (L : VL) (x : Int) : (fin L x).getD (.bool false) = .bool (vhas L x) := by unfold fin; cases vhas L x <;> rfl
theorem fin_some (L : VL) (x : Int) : (fin L x).isSome = vhas L x := by unfold fin; cases vhas L x <;> rfl
theorem fin_snoc (L : VL) (x : Int) (n : Nat) : fin (L ++ [(x, n)]) = fun y => if y = x then some (.bool true) else fin L y := by
  funext y
  unfold fin
  rw [vhas_snoc]
  by_cases hy : y = x
  · subst hy; simp
  · have : ((x, n).1 == y) = false := beq_false_of_ne (fun h => hy h.symm)
    rw [this, Bool.or_false, if_neg hy]
theorem fin_same {L : VL} {x : Int} (h : vhas L x = true) : (fun y => if y = x then some (.bool true) else fin L y) = fin L := by
  funext y
  by_cases hy : y = x
  · subst hy; rw [if_pos rfl]; unfold fin; rw [h]; rfl
  · rw [if_neg hy]
theorem vhas_del (L : VL) (x y : Int) : vhas (vdel L x) y = (vhas L y && !(y == x)) := by
  unfold vhas vdel
  rw [List.any_filter, Bool.eq_iff_iff]
  simp only [List.any_eq_true, Bool.and_eq_true, beq_iff_eq, Bool.not_eq_true', beq_eq_false_iff_ne]
  constructor
  · rintro ⟨e, he, h1, rfl⟩; exact ⟨⟨e, he, rfl⟩, h1⟩
  · rintro ⟨⟨e, he, rfl⟩, h1⟩; exact ⟨e, he, h1, rfl⟩
theorem fin_del (L : VL) (x : Int) : fin (vdel L x) = fun y => if y = x then none else fin L y := by
  funext y
  unfold fin
  rw [vhas_del]
  by_cases hy : y = x
  · subst hy; simp
  · have : (y == x) = false := beq_false_of_ne hy
    rw [this, Bool.not_false, Bool.and_true, if_neg hy]
theorem fin_nil : fin [] = fun _ => none := rfl
theorem VL.ok_nil : VL.ok [] := ⟨by simp, fun e he => by cases he⟩
theorem VL.ok_del {L : VL} (h : VL.ok L) (x : Int) : VL.ok (vdel L x) :=
  ⟨List.Nodup.sublist (List.Sublist.map _ List.filter_sublist) h.1, fun e he => h.2 e ((List.mem_filter.1 he).1)⟩
theorem VL.ok_snoc {L : VL} (h : VL.ok L) {x : Int} {n : Nat} (hx : (Lit.int .i64 x).wf = true) (hn : n < W256) (hv : vhas L x = false) : VL.ok (L ++ [(x, n)]) := by
  refine ⟨?_, fun e he => ?_⟩
  · rw [List.map_append, List.map_cons, List.map_nil]
    refine List.nodup_append.2 ⟨h.1, by simp, ?_⟩
    intro a ha b hb e
    obtain ⟨e1, he1, rfl⟩ := List.mem_map.1 ha
    simp at hb
    have : vhas L x = true := by unfold vhas; rw [List.any_eq_true]; exact ⟨e1, he1, by simp [e, hb]⟩
    rw [hv] at this; cases this
  · rcases List.mem_append.1 he with h1 | h1
    · exact h.2 e h1
    · simp at h1; subst h1; exact ⟨hx, hn⟩
theorem vdel_le (L : VL) (x : Int) : (vdel L x).length ≤ L.length := vdel_len L x
theorem zeroBool (w : World) : (zeroValue 4).run Try.prog w = .ok (.bool false) w := by kernel_rfl
theorem buildZero (w : World) : (Instr.build 26 #[]).run Try.prog w = .ok (hv 0) w := by
  rw [show hv 0 = .agg (Array.replicate 32 (Value.int .u8 0)) from by unfold hv; rw [hcs_zero]]
  kernel_rfl
theorem doInfo : (Try.prog.info? 29).map (·.size) = some 34 := by kernel_rfl
/-- a variable of type Do, new, is given a value -/
theorem storeDo (d : VDo) (w : World) : (storeCells ⟨w.heap.size, 0, none⟩ (do1 d)).run Try.prog (w.alloc (.cells #[.int .i64 0, .int .u8 0, .int .u8 0, .int .u8 0, .int .u8 0, .int .u8 0, .int .u8 0, .int .u8 0, .int .u8 0, .int .u8 0, .int .u8 0, .int .u8 0, .int .u8 0, .int .u8 0, .int .u8 0, .int .u8 0, .int .u8 0, .int .u8 0, .int .u8 0, .int .u8 0, .int .u8 0, .int .u8 0, .int .u8 0, .int .u8 0, .int .u8 0, .int .u8 0, .int .u8 0, .int .u8 0, .int .u8 0, .int .u8 0, .int .u8 0, .int .u8 0, .int .u8 0, .bool false] 29)) = .ok () (w.alloc (.cells (do1 d).toArray 29)) := by
  have := store_new (P := Try.prog) w 29 #[.int .i64 0, .int .u8 0, .int .u8 0, .int .u8 0, .int .u8 0, .int .u8 0, .int .u8 0, .int .u8 0, .int .u8 0, .int .u8 0, .int .u8 0, .int .u8 0, .int .u8 0, .int .u8 0, .int .u8 0, .int .u8 0, .int .u8 0, .int .u8 0, .int .u8 0, .int .u8 0, .int .u8 0, .int .u8 0, .int .u8 0, .int .u8 0, .int .u8 0, .int .u8 0, .int .u8 0, .int .u8 0, .int .u8 0, .int .u8 0, .int .u8 0, .int .u8 0, .int .u8 0, .bool false] (do1 d).toArray (by simp [do1_length]) (do1_one d)
  simpa using this
theorem do_hash {w : World} {g : Nat} {d : VDo} (h : Blk w g (do1 d).toArray 29) : w.rangeAt g 1 (hls d.2.1) := fun j u hu => by
  rw [h.cell]
  have hj : j < 32 := by have := (List.getElem?_eq_some_iff.1 hu).1; rwa [hls_length] at this
  simp only [do1, List.getElem?_toArray]
  rw [Nat.add_comm 1 j, List.getElem?_cons_succ, List.getElem?_append_left (by rw [hls_length]; exact hj)]; exact hu
theorem do_leave {w : World} {g : Nat} {d : VDo} (h : Blk w g (do1 d).toArray 29) : w.cell? ⟨g, 33, none⟩ = some (.bool d.2.2) := by
  rw [h.cell]
  simp only [do1, List.getElem?_toArray]
  rw [List.getElem?_cons_succ, List.getElem?_append_right (by rw [hls_length]; omega), hls_length]; rfl
/-- of one more sum -/
theorem saidBy_cover (L : VL) : ((once (L.map Prod.snd)).map fun h => (saidBy L h).length).sum = L.length := by
  have key : ∀ (M : List Nat), M.Nodup → ∀ L : VL, (∀ e ∈ L, e.2 ∈ M) → (M.map fun h => (saidBy L h).length).sum = L.length := by
    intro M hM L
    induction L with
    | nil =>
      intro _
      have : ∀ M : List Nat, (M.map fun h => (saidBy [] h).length).sum = 0 := by
        intro M
        induction M with
        | nil => rfl
        | cons m M ih => simp only [List.map_cons, List.sum_cons]; rw [ih]; rfl
      exact this M
    | cons e r ih =>
      intro h
      have ih := ih (fun e he => h e (List.mem_cons_of_mem _ he))
      have hm : e.2 ∈ M := h e (List.mem_cons_self ..)
      have step : ∀ M : List Nat, M.Nodup → (M.map fun h => (saidBy (e :: r) h).length).sum = (M.map fun h => (saidBy r h).length).sum + (if e.2 ∈ M then 1 else 0) := by
        intro M
        induction M with
        | nil => intro _; simp
        | cons m M ihM =>
          intro hn
          rw [List.nodup_cons] at hn
          have ihM := ihM hn.2
          simp only [List.map_cons, List.sum_cons]
          rw [ihM]
          by_cases hem : e.2 = m
          · subst hem
            rw [if_neg hn.1, if_pos (List.mem_cons_self ..)]
            simp [saidBy]
            omega
          · have h1 : (e.2 == m) = false := beq_false_of_ne hem
            have h2 : (e.2 ∈ m :: M) ↔ (e.2 ∈ M) := by simp [hem]
            simp only [h2]
            simp [saidBy, h1]
            omega
      rw [step M hM, ih, if_pos hm, List.length_cons]
  refine key _ ?_ L (fun e he => (once_mem _ _).2 (List.mem_map.2 ⟨e, he, rfl⟩))
  have nd : ∀ (hs acc : List Nat), acc.Nodup → (hs.foldl (fun acc h => if h ∈ acc then acc else acc ++ [h]) acc).Nodup := by
    intro hs
    induction hs with
    | nil => intro acc h; exact h
    | cons h r ih =>
      intro acc ha
      rw [List.foldl_cons]
      apply ih
      split
      · exact ha
      · rename_i hm
        refine List.nodup_append.2 ⟨ha, by simp, ?_⟩
        intro a h1 b h2 e
        simp at h2
        exact hm (by rw [← h2, ← e]; exact h1)
  exact nd _ [] (by simp)
theorem saidBy_in {L : VL} {h : Nat} {x : Int} (hx : x ∈ saidBy L h) : vhas L x = true := by
  unfold saidBy at hx
  obtain ⟨e, he, rfl⟩ := List.mem_map.1 hx
  unfold vhas
  rw [List.any_eq_true]
  exact ⟨e, (List.mem_filter.1 he).1, by simp⟩
theorem saidBy_wf {L : VL} (hok : VL.ok L) {h : Nat} {x : Int} (hx : x ∈ saidBy L h) : (Lit.int .i64 x).wf = true := by
  unfold saidBy at hx
  obtain ⟨e, he, rfl⟩ := List.mem_map.1 hx
  exact (hok.2 e ((List.mem_filter.1 he).1)).1
end Go.Proofs.Ytgedpgdefafofaa
