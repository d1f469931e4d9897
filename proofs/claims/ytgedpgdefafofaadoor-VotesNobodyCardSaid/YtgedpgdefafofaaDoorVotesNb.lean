/- Votes that no call made (layer 18). -/
import Derived.Test.YtgedpgdefafofaaDoorHashTrod
import Derived.Test.YtgedpgdefafofaaDoorHashLoad
import Derived.Test.YtgedpgdefafofaaDoorMem
import Derived.Test.YtgedpgdefafofaaDoorRegion
import Derived.Deep.LoopGhost
namespace Go.Proofs.YtgedpgdefafofaaDoor
open Go Go.ChangeShapes Go.WideShapes Go.ChangeAt Go.RowKit
set_option linter.unusedSimpArgs false
set_option linter.unusedVariables false
set_option maxRecDepth 100000

abbrev VDo := Int × Nat × Bool
/-- the cells of a Do -/
def do1 (d : VDo) : List Value := .int .i64 d.1 :: (hls d.2.1 ++ [.bool d.2.2])
theorem do1_length (d : VDo) : (do1 d).length = 34 := by simp [do1, hls_length]
def VDo.ok (d : VDo) : Prop := (Lit.int .i64 d.1).wf = true ∧ d.2.1 < W256
theorem do_hash {w : World} {g : Nat} {d : VDo} {t : TypeId} (h : Blk w g (do1 d).toArray t) : w.rangeAt g 1 (hls d.2.1) := fun j u hu => by
  rw [h.cell]
  have hj : j < 32 := by have := (List.getElem?_eq_some_iff.1 hu).1; rwa [hls_length] at this
  simp only [do1, List.getElem?_toArray]
  rw [Nat.add_comm 1 j, List.getElem?_cons_succ, List.getElem?_append_left (by rw [hls_length]; exact hj)]; exact hu
theorem open_vdo {H : Type} {enc : TypeId × Value → H} {w : World} {b0 : Nat} {r : Reach} {v : Value} {d : DataW H} {p : List MemPlace}
    (hv : Value.okWide Tryd.prog w r b0 42 v) (h : DataW.Trod enc Tryd.prog w 0 (fun _ => true) true 42 v d p) :
    ∃ d : VDo, d.ok ∧ v = .agg (do1 d).toArray := by
  obtain ⟨cs, rfl, hs, _⟩ : ∃ cs, v = .agg cs ∧ cs.size = Tryd.prog.cellsOf 42 ∧ Row.okWide Tryd.prog w r b0 42 cs := by
    unfold Value.okWide at hv; rw [Tryd.underlying42] at hv; exact hv
  obtain ⟨fuel, hf⟩ := h
  rw [show Tryd.prog.cellsOf 42 = 34 from by kernel_rfl] at hs
  obtain ⟨y0, y1, y2, n', hy, hcl, h0, h1, h2⟩ := Go.Deep.trod_struct3 Tryd.underlying42 hf
  have k0 : Tryd.prog.cellsOf 3 = 1 := by kernel_rfl
  have k1 : Tryd.prog.cellsOf 24 = 32 := by kernel_rfl
  have k2 : Tryd.prog.cellsOf 4 = 1 := by kernel_rfl
  have g0 : DataW.trod enc Tryd.prog w 0 (fun _ => true) true n' 3 ((cs.toList.drop 0).take 1) = some y0 := by simpa [k0, Value.cells] using h0
  have g1 : DataW.trod enc Tryd.prog w 0 (fun _ => true) true n' 24 ((cs.toList.drop 1).take 32) = some y1 := by simpa [k1, Value.cells] using h1
  have g2 : DataW.trod enc Tryd.prog w 0 (fun _ => true) true n' 4 ((cs.toList.drop 33).take 1) = some y2 := by simpa [k2, Value.cells] using h2
  obtain ⟨z0, e0, w0⟩ := trod_i64 g0
  obtain ⟨z1, w1, e1⟩ := trod_hash g1
  obtain ⟨z2, e2, _⟩ := DataW.trod_bool Tryd.underlying4 g2
  refine ⟨(z0, z1, z2), ⟨w0, w1⟩, ?_⟩
  have e : cs.toList = do1 (z0, z1, z2) := by
    rw [← List.take_append_drop 1 cs.toList, show cs.toList.take 1 = (cs.toList.drop 0).take 1 from rfl, e0]
    rw [← List.take_append_drop 32 (cs.toList.drop 1), e1, List.drop_drop, show cs.toList.drop (1 + 32) = (cs.toList.drop 33).take 1 from by
      rw [List.take_of_length_le (by rw [List.length_drop, Array.length_toList]; omega)], e2]
    rfl
  rw [← e]
theorem nbVote (v : Value) (x : Int) (n : Nat) (w : World) (P : ∀ w', Below w.heap.size w w' → Calls Tryd.prog 33 #[v] w' fun e w'' => e = .returned (.bool true) ∧ w' = w'') :
    Calls Tryd.prog 12 #[v, .int .i64 x, hv n] w fun e w' => e = .returned (.int .i64 2) ∧ Below w.heap.size w w' := by
  have P := Lib.hid P
  go_enter Tryd.func12, Tryd.ntmps12
  have K0 := Lib.hid ((Below.refl w.heap.size w).alloc (Nat.le_refl _) (.cells (hcs n) 24))
  go_upto_region 1 with fail
  generalize w.alloc (.cells (hcs n) 24) = w0 at *
  go_wp2_with fail
  refine (P.out _ K0.out).mono ?_
  rintro e w1 ⟨rfl, rfl⟩
  go_wp2
  go_ret
  exact ⟨rfl, K0.out⟩
theorem nbLeave (v : Value) (x : Int) (w : World) (P : ∀ w', Below w.heap.size w w' → Calls Tryd.prog 33 #[v] w' fun e w'' => e = .returned (.bool true) ∧ w' = w'') :
    Calls Tryd.prog 13 #[v, .int .i64 x] w fun e w' => e = .returned (.int .i64 2) ∧ Below w.heap.size w w' := by
  have P := Lib.hid P
  go_enter Tryd.func13, Tryd.ntmps13
  have K0 := Lib.hid ((Below.refl w.heap.size w).alloc (Nat.le_refl _) (.cells #[.int .i64 x] 3))
  go_upto_region 1 with fail
  generalize w.alloc (.cells #[.int .i64 x] 3) = w0 at *
  go_wp2_with fail
  refine (P.out _ K0.out).mono ?_
  rintro e w1 ⟨rfl, rfl⟩
  go_wp2
  go_ret
  exact ⟨rfl, K0.out⟩
theorem nbHas (v : Value) (x : Int) (w : World) (P : ∀ w', Below w.heap.size w w' → Calls Tryd.prog 33 #[v] w' fun e w'' => e = .returned (.bool true) ∧ w' = w'') :
    Calls Tryd.prog 14 #[v, .int .i64 x] w fun e w' => e = .returned (.bool false) ∧ Below w.heap.size w w' := by
  have P := Lib.hid P
  go_enter Tryd.func14, Tryd.ntmps14
  have K0 := Lib.hid (Below.refl w.heap.size w)
  go_wp2_with fail
  refine (P.out _ K0.out).mono ?_
  rintro e w1 ⟨rfl, rfl⟩
  go_wp2
  go_ret
  exact ⟨rfl, K0.out⟩
theorem nbSums (v : Value) (w : World) (P : ∀ w', Below w.heap.size w w' → Calls Tryd.prog 33 #[v] w' fun e w'' => e = .returned (.bool true) ∧ w' = w'') :
    Calls Tryd.prog 15 #[v] w fun e w' => e = .returned (.slice none 0 0) ∧ Below w.heap.size w w' := by
  have P := Lib.hid P
  go_enter Tryd.func15, Tryd.ntmps15
  have K0 := Lib.hid (Below.refl w.heap.size w)
  go_wp2_with fail
  refine (P.out _ K0.out).mono ?_
  rintro e w1 ⟨rfl, rfl⟩
  go_wp2
  go_ret
  exact ⟨rfl, K0.out⟩
theorem nbPeers (v : Value) (n : Nat) (w : World) (P : ∀ w', Below w.heap.size w w' → Calls Tryd.prog 33 #[v] w' fun e w'' => e = .returned (.bool true) ∧ w' = w'') :
    Calls Tryd.prog 16 #[v, hv n] w fun e w' => e = .returned (.slice none 0 0) ∧ Below w.heap.size w w' := by
  have P := Lib.hid P
  go_enter Tryd.func16, Tryd.ntmps16
  have K0 := Lib.hid ((Below.refl w.heap.size w).alloc (Nat.le_refl _) (.cells (hcs n) 24))
  go_upto_region 1 with fail
  generalize w.alloc (.cells (hcs n) 24) = w0 at *
  go_wp2_with fail
  refine (P.out _ K0.out).mono ?_
  rintro e w1 ⟨rfl, rfl⟩
  go_wp2
  go_ret
  exact ⟨rfl, K0.out⟩
theorem nbTexts (w : World) : Calls Tryd.prog 17 #[.slice none 0 0] w fun e w' => e = .returned (.slice none 0 0) ∧ w = w' := by
  go_enter Tryd.func17, Tryd.ntmps17
  go_wp2
  go_loopg [3, 8] 0 (fun gh l i wx => l = .slice none 0 0 ∧ i = .int .i64 0 ∧ gh = 0 ∧ wx = w)
  case atStart => exact ⟨rfl, rfl, rfl, rfl⟩
  case round =>
    obtain ⟨rfl, rfl, rfl, rfl⟩ := hrel
    go_wp2
    go_ret
    exact ⟨rfl, rfl⟩
theorem nbCut (w : World) : Calls Tryd.prog 63 #[.slice none 0 0] w fun e w' => e = .returned (.tuple #[.int .u64 0, .slice none 0 0, .int .i64 50]) ∧ w = w' := by
  go_enter Tryd.func63, Tryd.ntmps63
  go_wp2
  go_ret3
  exact ⟨rfl, rfl⟩
theorem nbClone (w : World) : Calls Tryd.prog 37 #[.slice none 0 0] w fun e w' => e = .returned (.slice none 0 0) ∧ w = w' := by
  have he : (binOp .eql 30 (.slice none 0 0) (.slice none 0 0)).run Tryd.prog w = .ok (.bool true) w := by kernel_rfl
  go_enter Tryd.func37, Tryd.ntmps37
  go_wp2
  go_ret
  exact ⟨rfl, rfl⟩
theorem nbDecode (w : World) : Calls Tryd.prog 39 #[.slice none 0 0] w fun e w' => e = .returned (.tuple #[.int .u64 0, .slice none 0 0, .int .i64 50]) ∧ w = w' := by
  go_enter Tryd.func39, Tryd.ntmps39
  go_wp2_with fail
  refine (nbCut w).mono ?_
  rintro e w1 ⟨rfl, rfl⟩
  go_wp2_with fail
  refine (nbClone w).mono ?_
  rintro e w1 ⟨rfl, rfl⟩
  go_wp2
  go_ret3
  exact ⟨rfl, rfl⟩
theorem nbValues (w : World) : Calls Tryd.prog 19 #[.slice none 0 0] w fun e w' => e = .returned (.tuple #[.slice none 0 0, .int .i64 120]) ∧ w = w' := by
  go_enter Tryd.func19, Tryd.ntmps19
  go_wp2_with fail
  refine (nbDecode w).mono ?_
  rintro e w1 ⟨rfl, rfl⟩
  go_wp2
  go_ret2
  exact ⟨rfl, rfl⟩
theorem nbLies (b : Array Value) (h : Nat) (w : World) : Calls Tryd.prog 7 #[.agg b, .slice none 0 0, hv h] w fun e w' => e = .returned (.bool true) ∧ Below w.heap.size w w' := by
  have L := St.new3' w b #[.slice none 0 0] (hcs h) 29 30 24
  go_enter Tryd.func7, Tryd.ntmps7
  go_upto_region 1 with fail
  generalize (((w.alloc (.cells b 29)).alloc (.cells #[.slice none 0 0] 30)).alloc (.cells (hcs h) 24)) = w0 at *
  have c1 := (L.at (b := w.heap.size + 1) (c := #[.slice none 0 0]) (t := 30) (by simp)).cell 0
  have c1 : w0.cell? ⟨w.heap.size + 1, 0, none⟩ = some (.slice none 0 0) := c1
  have L := Lib.hid L.below
  go_wp2_with fail
  refine (nbValues w0).mono ?_
  rintro e w1 ⟨rfl, rfl⟩
  go_upto_region 2 with fail
  refine wp_region_held_drew (S := fun w' => Below w0.heap.size w0 w') (by kernel_rfl) ((Below.refl _ _).drew) (fun hS => ?_)
  refine wpAnyH_take (i := 0) (oi := ⟨_, _, _, _, _, _⟩) (v := ?_) rfl (by kernel_rfl) (by kernel_rfl) (by kernel_rfl) (fun _ _ _ h => h) (Or.inl ⟨by rfl, ?_⟩) hS ?_
  rotate_left
  · intro w0 hs; clear hs; go_simp; try (with_reducible rfl)
  try simp only [Act.put, List.setIfInBounds_toArray, List.set_cons_zero, List.set_cons_succ]
  refine wpAnyH_take (i := 1) (oi := ⟨_, _, _, _, _, _⟩) (v := ?_) rfl (by kernel_rfl) (by kernel_rfl) (by kernel_rfl) (fun _ _ _ h => h) (Or.inl ⟨by rfl, ?_⟩) hS ?_
  rotate_left
  · intro w0 hs; clear hs; go_simp; try (with_reducible rfl)
  try simp only [Act.put, List.setIfInBounds_toArray, List.set_cons_zero, List.set_cons_succ]
  refine wpAnyH_take (i := 2) (oi := ⟨_, _, _, _, _, _⟩) (v := ?_) rfl (by kernel_rfl) (by kernel_rfl) (by kernel_rfl) (fun _ _ _ h => h) (Or.inl ⟨by rfl, ?_⟩) hS ?_
  rotate_left
  · intro w0 hs; clear hs; go_simp; try (with_reducible rfl)
  try simp only [Act.put, List.setIfInBounds_toArray, List.set_cons_zero, List.set_cons_succ]
  refine wpAnyH_take (i := 3) (oi := ⟨_, _, _, _, _, _⟩) rfl (by kernel_rfl) (by kernel_rfl) (by kernel_rfl) (fun _ _ _ h => h) (Or.inr ⟨by rfl, rfl⟩) hS ?_
  try simp only [Act.put, List.setIfInBounds_toArray, List.set_cons_zero, List.set_cons_succ]
  refine wpAnyH_take (i := 4) (oi := ⟨_, _, _, _, _, _⟩) rfl (by kernel_rfl) (by kernel_rfl) (by kernel_rfl) (fun _ _ _ h => h) (Or.inr ⟨by rfl, rfl⟩) hS ?_
  try simp only [Act.put, List.setIfInBounds_toArray, List.set_cons_zero, List.set_cons_succ]
  refine wpAnyH_take (i := 5) (oi := ⟨_, _, _, _, _, _⟩) rfl (by kernel_rfl) (by kernel_rfl) (by kernel_rfl) (fun _ _ _ h => h) (Or.inr ⟨by rfl, rfl⟩) hS ?_
  try simp only [Act.put, List.setIfInBounds_toArray, List.set_cons_zero, List.set_cons_succ]
  refine wpAnyH_take (i := 6) (oi := ⟨_, _, _, _, _, _⟩) rfl (by kernel_rfl) (by kernel_rfl) (by kernel_rfl) (fun _ _ _ h => h) (Or.inr ⟨by rfl, rfl⟩) hS ?_
  try simp only [Act.put, List.setIfInBounds_toArray, List.set_cons_zero, List.set_cons_succ]
  refine wpAnyH_take (i := 7) (oi := ⟨_, _, _, _, _, _⟩) (v := ?_) rfl (by kernel_rfl) (by kernel_rfl) (by kernel_rfl) (fun _ _ _ h => h) (Or.inl ⟨by rfl, ?_⟩) hS ?_
  rotate_left
  · intro w0 hs; clear hs; go_simp; try (with_reducible rfl)
  try simp only [Act.put, List.setIfInBounds_toArray, List.set_cons_zero, List.set_cons_succ]
  refine wpAnyH_done (by kernel_rfl) ?_ _
  go_wp2
  go_ret
  exact ⟨rfl, L.out.trans (hS.mono L.out.size)⟩
theorem none_nil (w : World) : Calls Tryd.prog 33 #[.pointer none] w fun e w' => e = .returned (.bool true) ∧ w = w' := by
  go_enter Tryd.func33, Tryd.ntmps33
  go_wp2
  go_ret
  exact ⟨rfl, rfl⟩
theorem none_zero (z : Nat) (w : World) (h : w.cell? ⟨z, 32, none⟩ = some (.map none)) : Calls Tryd.prog 33 #[.pointer (some ⟨z, 0, none⟩)] w fun e w' => e = .returned (.bool true) ∧ w = w' := by
  have he : (binOp .eql 44 (.map none) (.map none)).run Tryd.prog w = .ok (.bool true) w := by kernel_rfl
  go_enter Tryd.func33, Tryd.ntmps33
  go_wp2
  go_ret
  exact ⟨rfl, rfl⟩
def zv : Array Value := #[.int .u8 0, .int .u8 0, .int .u8 0, .int .u8 0, .int .u8 0, .int .u8 0, .int .u8 0, .int .u8 0, .int .u8 0, .int .u8 0, .int .u8 0, .int .u8 0, .int .u8 0, .int .u8 0, .int .u8 0, .int .u8 0, .int .u8 0, .int .u8 0, .int .u8 0, .int .u8 0, .int .u8 0, .int .u8 0, .int .u8 0, .int .u8 0, .int .u8 0, .int .u8 0, .int .u8 0, .int .u8 0, .int .u8 0, .int .u8 0, .int .u8 0, .int .u8 0, .map none, .slice none 0 0]
/-- what a round finds -/
def NbS (W wx : World) (d : VDo) : Prop := Blk wx W.heap.size (do1 d).toArray 42 ∧ Blk wx (W.heap.size + 1) zv 47 ∧ Blk wx (W.heap.size + 1 + 1) #[.pointer none, .pointer (some ⟨W.heap.size + 1, 0, none⟩)] 43 ∧ Below W.heap.size W wx
theorem NbS.keep {W wx w' : World} {d : VDo} (h : NbS W wx d) (hb : Below wx.heap.size wx w') : NbS W w' d := ⟨h.1.beyond hb, h.2.1.beyond hb, h.2.2.1.beyond hb, h.2.2.2.trans (hb.mono h.2.2.2.size)⟩
set_option maxHeartbeats 3200000 in
theorem nobody_walk (d : VDo) (W : World) (hd : d.ok) :
    Calls Tryd.prog 5 #[.agg (do1 d).toArray] W fun e w' => e = .returned (.bool true) ∧ Below W.heap.size W w' := by
  have L0 := St.new3' W (do1 d).toArray zv #[.pointer none, .pointer (some ⟨W.heap.size + 1, 0, none⟩)] 42 47 43
  have ST : NbS W (((W.alloc (.cells (do1 d).toArray 42)).alloc (.cells zv 47)).alloc (.cells #[.pointer none, .pointer (some ⟨W.heap.size + 1, 0, none⟩)] 43)) d := ⟨L0.at (by simp), L0.at (by simp), L0.at (by simp), L0.below⟩
  unfold zv at ST
  clear L0
  have LDI := hashInfo
  go_enter Tryd.func5, Tryd.ntmps5
  go_upto_region 2 with fail
  generalize (((W.alloc (.cells (do1 d).toArray 42)).alloc (.cells #[.int .u8 0, .int .u8 0, .int .u8 0, .int .u8 0, .int .u8 0, .int .u8 0, .int .u8 0, .int .u8 0, .int .u8 0, .int .u8 0, .int .u8 0, .int .u8 0, .int .u8 0, .int .u8 0, .int .u8 0, .int .u8 0, .int .u8 0, .int .u8 0, .int .u8 0, .int .u8 0, .int .u8 0, .int .u8 0, .int .u8 0, .int .u8 0, .int .u8 0, .int .u8 0, .int .u8 0, .int .u8 0, .int .u8 0, .int .u8 0, .int .u8 0, .int .u8 0, .map none, .slice none 0 0] 47)).alloc (.cells #[.pointer none, .pointer (some ⟨W.heap.size + 1, 0, none⟩)] 43)) = w0 at *
  have ST := Lib.hid ST
  go_wp2
  go_loopg [9] 2 (fun gh i wx => ∃ k : Nat, k ≤ 2 ∧ i = .int .i64 (k : Int) ∧ gh = 2 - k ∧ Hid (NbS W wx d))
  case atStart => exact ⟨0, by omega, rfl, rfl, ST.out⟩
  case round =>
    clear ST
    obtain ⟨k, hk, rfl, hg, ST⟩ := hrel
    have c0 : wr.cell? ⟨W.heap.size, 0, none⟩ = some (.int .i64 d.1) := ST.out.1.cell 0
    have ch := do_hash ST.out.1
    have hgl := ST.out.1.lt
    have cz : wr.cell? ⟨W.heap.size + 1, 32, none⟩ = some (.map none) := ST.out.2.1.cell 32
    have hzl := ST.out.2.1.lt
    have p0 : wr.cell? ⟨W.heap.size + 1 + 1, 0, none⟩ = some (.pointer none) := ST.out.2.2.1.cell 0
    have p1 : wr.cell? ⟨W.heap.size + 1 + 1, 1, none⟩ = some (.pointer (some ⟨W.heap.size + 1, 0, none⟩)) := ST.out.2.2.1.cell 1
    obtain ⟨x, n, lv⟩ := d
    by_cases hlt : k < 2
    · rcases (by omega : k = 0 ∨ k = 1) with rfl | rfl
      · rw [show ((0 : Nat) : Int) = 0 from rfl]
        have NB : ∀ w', Below wr.heap.size wr w' → Calls Tryd.prog 33 #[.pointer none] w' fun e w'' => e = .returned (.bool true) ∧ w' = w'' := fun w' _ => none_nil w'
        go_upto_region 4 with fail
        refine wp_region_held_drew (S := fun w' => Below wr.heap.size wr w') (by kernel_rfl) ((Below.refl _ _).drew) (fun hS => ?_)
        refine wpAnyH_take (i := 0) (oi := ⟨_, _, _, _, _, _⟩) (v := ?_) rfl (by kernel_rfl) (by kernel_rfl) (by kernel_rfl) (fun _ _ _ h => h) (Or.inl ⟨by rfl, ?_⟩) hS ?_
        rotate_left
        · intro w0 hs; have hc0 := (hs.cell (p := ⟨W.heap.size, 0, none⟩) hgl).trans c0; clear hs; go_simp; try (with_reducible rfl)
        try simp only [Act.put, List.setIfInBounds_toArray, List.set_cons_zero, List.set_cons_succ]
        refine wpAnyH_take (i := 1) (oi := ⟨_, _, _, _, _, _⟩) (v := ?_) rfl (by kernel_rfl) (by kernel_rfl) (by kernel_rfl) (fun _ _ _ h => h) (Or.inl ⟨by rfl, ?_⟩) hS ?_
        rotate_left
        · intro w0 hs; have hc0 := (hs.cell (p := ⟨W.heap.size, 0, none⟩) hgl).trans c0; clear hs; go_simp; try (with_reducible rfl)
        try simp only [Act.put, List.setIfInBounds_toArray, List.set_cons_zero, List.set_cons_succ]
        refine wpAnyH_take (i := 2) (oi := ⟨_, _, _, _, _, _⟩) (v := ?_) rfl (by kernel_rfl) (by kernel_rfl) (by kernel_rfl) (fun _ _ _ h => h) (Or.inl ⟨by rfl, ?_⟩) hS ?_
        rotate_left
        · intro w0 hs; have hc0 := (hs.cell (p := ⟨W.heap.size, 0, none⟩) hgl).trans c0; clear hs; go_simp; try (with_reducible rfl)
        try simp only [Act.put, List.setIfInBounds_toArray, List.set_cons_zero, List.set_cons_succ]
        refine wpAnyH_take (i := 3) (oi := ⟨_, _, _, _, _, _⟩) (v := ?_) rfl (by kernel_rfl) (by kernel_rfl) (by kernel_rfl) (fun _ _ _ h => h) (Or.inl ⟨by rfl, ?_⟩) hS ?_
        rotate_left
        · intro w0 hs; have hc0 := (hs.cell (p := ⟨W.heap.size, 0, none⟩) hgl).trans c0; clear hs; go_simp; try (with_reducible rfl)
        try simp only [Act.put, List.setIfInBounds_toArray, List.set_cons_zero, List.set_cons_succ]
        refine wpAnyH_take (i := 4) (oi := ⟨_, _, _, _, _, _⟩) (v := hv n) rfl (by kernel_rfl) (by kernel_rfl) (by kernel_rfl) (fun _ _ _ h => h) (yieldsIf_load_mid (by rfl) 24 (.tmp 16) rfl W.heap.size 1 rfl (hls n) (.array 32 5) (fun _ hs j v hv => (hs.cell (p := ⟨W.heap.size, _, none⟩) hgl).trans (ch j v hv)) Tryd.underlying24 rfl LDI) hS ?_
        try simp only [Act.put, List.setIfInBounds_toArray, List.set_cons_zero, List.set_cons_succ]
        refine wpAnyH_ready (rs := [5]) (by kernel_rfl) (by simp) ?_
        refine AllReadyH.cons (o := ⟨_, _, _, _, _, _⟩) rfl (fun K hK => ?_) AllReadyH.nil
        rw [if_pos (by rfl)]
        go_step
        refine (nbVote (.pointer none) x n _ (fun w' hb => NB w' (hS.trans (hb.mono hS.size)))).mono ?_
        rintro e w1 ⟨rfl, hw1⟩
        simp only []
        refine hK.out _ _ (hS.trans (hw1.mono hS.size)) (fun hS' => ?_)
        clear hS hK
        have hS := hS'; clear hS'
        try simp only [Act.put, List.setIfInBounds_toArray, List.set_cons_zero, List.set_cons_succ]
        refine wpAnyH_take (i := 6) (oi := ⟨_, _, _, _, _, _⟩) (v := ?_) rfl (by kernel_rfl) (by kernel_rfl) (by kernel_rfl) (fun _ _ _ h => h) (Or.inl ⟨by rfl, ?_⟩) hS ?_
        rotate_left
        · intro w0 hs; have hc0 := (hs.cell (p := ⟨W.heap.size, 0, none⟩) hgl).trans c0; clear hs; go_simp; try (with_reducible rfl)
        try simp only [Act.put, List.setIfInBounds_toArray, List.set_cons_zero, List.set_cons_succ]
        refine wpAnyH_take (i := 7) (oi := ⟨_, _, _, _, _, _⟩) (v := ?_) rfl (by kernel_rfl) (by kernel_rfl) (by kernel_rfl) (fun _ _ _ h => h) (Or.inl ⟨by rfl, ?_⟩) hS ?_
        rotate_left
        · intro w0 hs; have hc0 := (hs.cell (p := ⟨W.heap.size, 0, none⟩) hgl).trans c0; clear hs; go_simp; try (with_reducible rfl)
        try simp only [Act.put, List.setIfInBounds_toArray, List.set_cons_zero, List.set_cons_succ]
        refine wpAnyH_take (i := 8) (oi := ⟨_, _, _, _, _, _⟩) (v := ?_) rfl (by kernel_rfl) (by kernel_rfl) (by kernel_rfl) (fun _ _ _ h => h) (Or.inl ⟨by rfl, ?_⟩) hS ?_
        rotate_left
        · intro w0 hs; have hc0 := (hs.cell (p := ⟨W.heap.size, 0, none⟩) hgl).trans c0; clear hs; go_simp; try (with_reducible rfl)
        try simp only [Act.put, List.setIfInBounds_toArray, List.set_cons_zero, List.set_cons_succ]
        refine wpAnyH_take (i := 9) (oi := ⟨_, _, _, _, _, _⟩) (v := ?_) rfl (by kernel_rfl) (by kernel_rfl) (by kernel_rfl) (fun _ _ _ h => h) (Or.inl ⟨by rfl, ?_⟩) hS ?_
        rotate_left
        · intro w0 hs; have hc0 := (hs.cell (p := ⟨W.heap.size, 0, none⟩) hgl).trans c0; clear hs; go_simp; try (with_reducible rfl)
        try simp only [Act.put, List.setIfInBounds_toArray, List.set_cons_zero, List.set_cons_succ]
        refine wpAnyH_take (i := 10) (oi := ⟨_, _, _, _, _, _⟩) (v := ?_) rfl (by kernel_rfl) (by kernel_rfl) (by kernel_rfl) (fun _ _ _ h => h) (Or.inl ⟨by rfl, ?_⟩) hS ?_
        rotate_left
        · intro w0 hs; have hc0 := (hs.cell (p := ⟨W.heap.size, 0, none⟩) hgl).trans c0; clear hs; go_simp; try (with_reducible rfl)
        try simp only [Act.put, List.setIfInBounds_toArray, List.set_cons_zero, List.set_cons_succ]
        refine wpAnyH_ready (rs := [11]) (by kernel_rfl) (by simp) ?_
        refine AllReadyH.cons (o := ⟨_, _, _, _, _, _⟩) rfl (fun K hK => ?_) AllReadyH.nil
        rw [if_pos (by rfl)]
        go_step
        refine (nbLeave (.pointer none) x _ (fun w' hb => NB w' (hS.trans (hb.mono hS.size)))).mono ?_
        rintro e w2 ⟨rfl, hw2⟩
        simp only []
        refine hK.out _ _ (hS.trans (hw2.mono hS.size)) (fun hS' => ?_)
        clear hS hK
        have hS := hS'; clear hS'
        try simp only [Act.put, List.setIfInBounds_toArray, List.set_cons_zero, List.set_cons_succ]
        refine wpAnyH_take (i := 12) (oi := ⟨_, _, _, _, _, _⟩) (v := ?_) rfl (by kernel_rfl) (by kernel_rfl) (by kernel_rfl) (fun _ _ _ h => h) (Or.inl ⟨by rfl, ?_⟩) hS ?_
        rotate_left
        · intro w0 hs; have hc0 := (hs.cell (p := ⟨W.heap.size, 0, none⟩) hgl).trans c0; clear hs; go_simp; try (with_reducible rfl)
        try simp only [Act.put, List.setIfInBounds_toArray, List.set_cons_zero, List.set_cons_succ]
        refine wpAnyH_take (i := 13) (oi := ⟨_, _, _, _, _, _⟩) (v := ?_) rfl (by kernel_rfl) (by kernel_rfl) (by kernel_rfl) (fun _ _ _ h => h) (Or.inl ⟨by rfl, ?_⟩) hS ?_
        rotate_left
        · intro w0 hs; have hc0 := (hs.cell (p := ⟨W.heap.size, 0, none⟩) hgl).trans c0; clear hs; go_simp; try (with_reducible rfl)
        try simp only [Act.put, List.setIfInBounds_toArray, List.set_cons_zero, List.set_cons_succ]
        refine wpAnyH_take (i := 14) (oi := ⟨_, _, _, _, _, _⟩) (v := ?_) rfl (by kernel_rfl) (by kernel_rfl) (by kernel_rfl) (fun _ _ _ h => h) (Or.inl ⟨by rfl, ?_⟩) hS ?_
        rotate_left
        · intro w0 hs; have hc0 := (hs.cell (p := ⟨W.heap.size, 0, none⟩) hgl).trans c0; clear hs; go_simp; try (with_reducible rfl)
        try simp only [Act.put, List.setIfInBounds_toArray, List.set_cons_zero, List.set_cons_succ]
        refine wpAnyH_take (i := 15) (oi := ⟨_, _, _, _, _, _⟩) (v := ?_) rfl (by kernel_rfl) (by kernel_rfl) (by kernel_rfl) (fun _ _ _ h => h) (Or.inl ⟨by rfl, ?_⟩) hS ?_
        rotate_left
        · intro w0 hs; have hc0 := (hs.cell (p := ⟨W.heap.size, 0, none⟩) hgl).trans c0; clear hs; go_simp; try (with_reducible rfl)
        try simp only [Act.put, List.setIfInBounds_toArray, List.set_cons_zero, List.set_cons_succ]
        refine wpAnyH_take (i := 16) (oi := ⟨_, _, _, _, _, _⟩) (v := ?_) rfl (by kernel_rfl) (by kernel_rfl) (by kernel_rfl) (fun _ _ _ h => h) (Or.inl ⟨by rfl, ?_⟩) hS ?_
        rotate_left
        · intro w0 hs; have hc0 := (hs.cell (p := ⟨W.heap.size, 0, none⟩) hgl).trans c0; clear hs; go_simp; try (with_reducible rfl)
        try simp only [Act.put, List.setIfInBounds_toArray, List.set_cons_zero, List.set_cons_succ]
        refine wpAnyH_take (i := 17) (oi := ⟨_, _, _, _, _, _⟩) (v := ?_) rfl (by kernel_rfl) (by kernel_rfl) (by kernel_rfl) (fun _ _ _ h => h) (Or.inl ⟨by rfl, ?_⟩) hS ?_
        rotate_left
        · intro w0 hs; have hc0 := (hs.cell (p := ⟨W.heap.size, 0, none⟩) hgl).trans c0; clear hs; go_simp; try (with_reducible rfl)
        try simp only [Act.put, List.setIfInBounds_toArray, List.set_cons_zero, List.set_cons_succ]
        refine wpAnyH_ready (rs := [18]) (by kernel_rfl) (by simp) ?_
        refine AllReadyH.cons (o := ⟨_, _, _, _, _, _⟩) rfl (fun K hK => ?_) AllReadyH.nil
        rw [if_pos (by rfl)]
        go_step
        refine (nbHas (.pointer none) x _ (fun w' hb => NB w' (hS.trans (hb.mono hS.size)))).mono ?_
        rintro e w3 ⟨rfl, hw3⟩
        simp only []
        refine hK.out _ _ (hS.trans (hw3.mono hS.size)) (fun hS' => ?_)
        clear hS hK
        have hS := hS'; clear hS'
        try simp only [Act.put, List.setIfInBounds_toArray, List.set_cons_zero, List.set_cons_succ]
        refine wpAnyH_take (i := 19) (oi := ⟨_, _, _, _, _, _⟩) (v := ?_) rfl (by kernel_rfl) (by kernel_rfl) (by kernel_rfl) (fun _ _ _ h => h) (Or.inl ⟨by rfl, ?_⟩) hS ?_
        rotate_left
        · intro w0 hs; have hc0 := (hs.cell (p := ⟨W.heap.size, 0, none⟩) hgl).trans c0; clear hs; go_simp; try (with_reducible rfl)
        try simp only [Act.put, List.setIfInBounds_toArray, List.set_cons_zero, List.set_cons_succ]
        refine wpAnyH_take (i := 20) (oi := ⟨_, _, _, _, _, _⟩) (v := ?_) rfl (by kernel_rfl) (by kernel_rfl) (by kernel_rfl) (fun _ _ _ h => h) (Or.inl ⟨by rfl, ?_⟩) hS ?_
        rotate_left
        · intro w0 hs; have hc0 := (hs.cell (p := ⟨W.heap.size, 0, none⟩) hgl).trans c0; clear hs; go_simp; try (with_reducible rfl)
        try simp only [Act.put, List.setIfInBounds_toArray, List.set_cons_zero, List.set_cons_succ]
        refine wpAnyH_take (i := 21) (oi := ⟨_, _, _, _, _, _⟩) (v := ?_) rfl (by kernel_rfl) (by kernel_rfl) (by kernel_rfl) (fun _ _ _ h => h) (Or.inl ⟨by rfl, ?_⟩) hS ?_
        rotate_left
        · intro w0 hs; have hc0 := (hs.cell (p := ⟨W.heap.size, 0, none⟩) hgl).trans c0; clear hs; go_simp; try (with_reducible rfl)
        try simp only [Act.put, List.setIfInBounds_toArray, List.set_cons_zero, List.set_cons_succ]
        refine wpAnyH_take (i := 24) (oi := ⟨_, _, _, _, _, _⟩) (v := ?_) rfl (by kernel_rfl) (by kernel_rfl) (by kernel_rfl) (fun _ _ _ h => h) (Or.inl ⟨by rfl, ?_⟩) hS ?_
        rotate_left
        · intro w0 hs; have hc0 := (hs.cell (p := ⟨W.heap.size, 0, none⟩) hgl).trans c0; clear hs; go_simp; try (with_reducible rfl)
        try simp only [Act.put, List.setIfInBounds_toArray, List.set_cons_zero, List.set_cons_succ]
        refine wpAnyH_take (i := 25) (oi := ⟨_, _, _, _, _, _⟩) (v := ?_) rfl (by kernel_rfl) (by kernel_rfl) (by kernel_rfl) (fun _ _ _ h => h) (Or.inl ⟨by rfl, ?_⟩) hS ?_
        rotate_left
        · intro w0 hs; have hc0 := (hs.cell (p := ⟨W.heap.size, 0, none⟩) hgl).trans c0; clear hs; go_simp; try (with_reducible rfl)
        try simp only [Act.put, List.setIfInBounds_toArray, List.set_cons_zero, List.set_cons_succ]
        refine wpAnyH_take (i := 26) (oi := ⟨_, _, _, _, _, _⟩) (v := hv n) rfl (by kernel_rfl) (by kernel_rfl) (by kernel_rfl) (fun _ _ _ h => h) (yieldsIf_load_mid (by rfl) 24 (.tmp 38) rfl W.heap.size 1 rfl (hls n) (.array 32 5) (fun _ hs j v hv => (hs.cell (p := ⟨W.heap.size, _, none⟩) hgl).trans (ch j v hv)) Tryd.underlying24 rfl LDI) hS ?_
        try simp only [Act.put, List.setIfInBounds_toArray, List.set_cons_zero, List.set_cons_succ]
        refine wpAnyH_ready (rs := [22]) (by kernel_rfl) (by simp) ?_
        refine AllReadyH.cons (o := ⟨_, _, _, _, _, _⟩) rfl (fun K hK => ?_) AllReadyH.nil
        rw [if_pos (by rfl)]
        go_step
        refine (nbSums (.pointer none) _ (fun w' hb => NB w' (hS.trans (hb.mono hS.size)))).mono ?_
        rintro e w4 ⟨rfl, hw4⟩
        simp only []
        refine hK.out _ _ (hS.trans (hw4.mono hS.size)) (fun hS' => ?_)
        clear hS hK
        have hS := hS'; clear hS'
        try simp only [Act.put, List.setIfInBounds_toArray, List.set_cons_zero, List.set_cons_succ]
        refine wpAnyH_take (i := 23) (oi := ⟨_, _, _, _, _, _⟩) (v := ?_) rfl (by kernel_rfl) (by kernel_rfl) (by kernel_rfl) (fun _ _ _ h => h) (Or.inl ⟨by rfl, ?_⟩) hS ?_
        rotate_left
        · intro w0 hs; have hc0 := (hs.cell (p := ⟨W.heap.size, 0, none⟩) hgl).trans c0; clear hs; go_simp; try (with_reducible rfl)
        try simp only [Act.put, List.setIfInBounds_toArray, List.set_cons_zero, List.set_cons_succ]
        refine wpAnyH_ready (rs := [27]) (by kernel_rfl) (by simp) ?_
        refine AllReadyH.cons (o := ⟨_, _, _, _, _, _⟩) rfl (fun K hK => ?_) AllReadyH.nil
        rw [if_pos (by rfl)]
        go_step
        refine (nbPeers (.pointer none) n _ (fun w' hb => NB w' (hS.trans (hb.mono hS.size)))).mono ?_
        rintro e w5 ⟨rfl, hw5⟩
        simp only []
        refine hK.out _ _ (hS.trans (hw5.mono hS.size)) (fun hS' => ?_)
        clear hS hK
        have hS := hS'; clear hS'
        try simp only [Act.put, List.setIfInBounds_toArray, List.set_cons_zero, List.set_cons_succ]
        refine wpAnyH_take (i := 28) (oi := ⟨_, _, _, _, _, _⟩) (v := ?_) rfl (by kernel_rfl) (by kernel_rfl) (by kernel_rfl) (fun _ _ _ h => h) (Or.inl ⟨by rfl, ?_⟩) hS ?_
        rotate_left
        · intro w0 hs; have hc0 := (hs.cell (p := ⟨W.heap.size, 0, none⟩) hgl).trans c0; clear hs; go_simp; try (with_reducible rfl)
        try simp only [Act.put, List.setIfInBounds_toArray, List.set_cons_zero, List.set_cons_succ]
        refine wpAnyH_take (i := 29) (oi := ⟨_, _, _, _, _, _⟩) (v := ?_) rfl (by kernel_rfl) (by kernel_rfl) (by kernel_rfl) (fun _ _ _ h => h) (Or.inl ⟨by rfl, ?_⟩) hS ?_
        rotate_left
        · intro w0 hs; have hc0 := (hs.cell (p := ⟨W.heap.size, 0, none⟩) hgl).trans c0; clear hs; go_simp; try (with_reducible rfl)
        try simp only [Act.put, List.setIfInBounds_toArray, List.set_cons_zero, List.set_cons_succ]
        refine wpAnyH_take (i := 30) (oi := ⟨_, _, _, _, _, _⟩) (v := ?_) rfl (by kernel_rfl) (by kernel_rfl) (by kernel_rfl) (fun _ _ _ h => h) (Or.inl ⟨by rfl, ?_⟩) hS ?_
        rotate_left
        · intro w0 hs; have hc0 := (hs.cell (p := ⟨W.heap.size, 0, none⟩) hgl).trans c0; clear hs; go_simp; try (with_reducible rfl)
        try simp only [Act.put, List.setIfInBounds_toArray, List.set_cons_zero, List.set_cons_succ]
        refine wpAnyH_take (i := 31) (oi := ⟨_, _, _, _, _, _⟩) (v := ?_) rfl (by kernel_rfl) (by kernel_rfl) (by kernel_rfl) (fun _ _ _ h => h) (Or.inl ⟨by rfl, ?_⟩) hS ?_
        rotate_left
        · intro w0 hs; have hc0 := (hs.cell (p := ⟨W.heap.size, 0, none⟩) hgl).trans c0; clear hs; go_simp; try (with_reducible rfl)
        try simp only [Act.put, List.setIfInBounds_toArray, List.set_cons_zero, List.set_cons_succ]
        refine wpAnyH_done (by kernel_rfl) ?_ _
        have HS := Lib.hid hS
        clear hS
        go_wp2
        go_roundg (2 - (0 + 1))
        case measure => omega
        case rel => exact ⟨0 + 1, by omega, rfl, rfl, ST.out.keep HS.out⟩
      · rw [show ((1 : Nat) : Int) = 1 from rfl]
        have NB : ∀ w', Below wr.heap.size wr w' → Calls Tryd.prog 33 #[.pointer (some ⟨W.heap.size + 1, 0, none⟩)] w' fun e w'' => e = .returned (.bool true) ∧ w' = w'' := fun w' hb => none_zero _ w' ((hb.cell (p := ⟨W.heap.size + 1, 32, none⟩) hzl).trans cz)
        go_upto_region 4 with fail
        refine wp_region_held_drew (S := fun w' => Below wr.heap.size wr w') (by kernel_rfl) ((Below.refl _ _).drew) (fun hS => ?_)
        refine wpAnyH_take (i := 0) (oi := ⟨_, _, _, _, _, _⟩) (v := ?_) rfl (by kernel_rfl) (by kernel_rfl) (by kernel_rfl) (fun _ _ _ h => h) (Or.inl ⟨by rfl, ?_⟩) hS ?_
        rotate_left
        · intro w0 hs; have hc0 := (hs.cell (p := ⟨W.heap.size, 0, none⟩) hgl).trans c0; clear hs; go_simp; try (with_reducible rfl)
        try simp only [Act.put, List.setIfInBounds_toArray, List.set_cons_zero, List.set_cons_succ]
        refine wpAnyH_take (i := 1) (oi := ⟨_, _, _, _, _, _⟩) (v := ?_) rfl (by kernel_rfl) (by kernel_rfl) (by kernel_rfl) (fun _ _ _ h => h) (Or.inl ⟨by rfl, ?_⟩) hS ?_
        rotate_left
        · intro w0 hs; have hc0 := (hs.cell (p := ⟨W.heap.size, 0, none⟩) hgl).trans c0; clear hs; go_simp; try (with_reducible rfl)
        try simp only [Act.put, List.setIfInBounds_toArray, List.set_cons_zero, List.set_cons_succ]
        refine wpAnyH_take (i := 2) (oi := ⟨_, _, _, _, _, _⟩) (v := ?_) rfl (by kernel_rfl) (by kernel_rfl) (by kernel_rfl) (fun _ _ _ h => h) (Or.inl ⟨by rfl, ?_⟩) hS ?_
        rotate_left
        · intro w0 hs; have hc0 := (hs.cell (p := ⟨W.heap.size, 0, none⟩) hgl).trans c0; clear hs; go_simp; try (with_reducible rfl)
        try simp only [Act.put, List.setIfInBounds_toArray, List.set_cons_zero, List.set_cons_succ]
        refine wpAnyH_take (i := 3) (oi := ⟨_, _, _, _, _, _⟩) (v := ?_) rfl (by kernel_rfl) (by kernel_rfl) (by kernel_rfl) (fun _ _ _ h => h) (Or.inl ⟨by rfl, ?_⟩) hS ?_
        rotate_left
        · intro w0 hs; have hc0 := (hs.cell (p := ⟨W.heap.size, 0, none⟩) hgl).trans c0; clear hs; go_simp; try (with_reducible rfl)
        try simp only [Act.put, List.setIfInBounds_toArray, List.set_cons_zero, List.set_cons_succ]
        refine wpAnyH_take (i := 4) (oi := ⟨_, _, _, _, _, _⟩) (v := hv n) rfl (by kernel_rfl) (by kernel_rfl) (by kernel_rfl) (fun _ _ _ h => h) (yieldsIf_load_mid (by rfl) 24 (.tmp 16) rfl W.heap.size 1 rfl (hls n) (.array 32 5) (fun _ hs j v hv => (hs.cell (p := ⟨W.heap.size, _, none⟩) hgl).trans (ch j v hv)) Tryd.underlying24 rfl LDI) hS ?_
        try simp only [Act.put, List.setIfInBounds_toArray, List.set_cons_zero, List.set_cons_succ]
        refine wpAnyH_ready (rs := [5]) (by kernel_rfl) (by simp) ?_
        refine AllReadyH.cons (o := ⟨_, _, _, _, _, _⟩) rfl (fun K hK => ?_) AllReadyH.nil
        rw [if_pos (by rfl)]
        go_step
        refine (nbVote (.pointer (some ⟨W.heap.size + 1, 0, none⟩)) x n _ (fun w' hb => NB w' (hS.trans (hb.mono hS.size)))).mono ?_
        rintro e w1 ⟨rfl, hw1⟩
        simp only []
        refine hK.out _ _ (hS.trans (hw1.mono hS.size)) (fun hS' => ?_)
        clear hS hK
        have hS := hS'; clear hS'
        try simp only [Act.put, List.setIfInBounds_toArray, List.set_cons_zero, List.set_cons_succ]
        refine wpAnyH_take (i := 6) (oi := ⟨_, _, _, _, _, _⟩) (v := ?_) rfl (by kernel_rfl) (by kernel_rfl) (by kernel_rfl) (fun _ _ _ h => h) (Or.inl ⟨by rfl, ?_⟩) hS ?_
        rotate_left
        · intro w0 hs; have hc0 := (hs.cell (p := ⟨W.heap.size, 0, none⟩) hgl).trans c0; clear hs; go_simp; try (with_reducible rfl)
        try simp only [Act.put, List.setIfInBounds_toArray, List.set_cons_zero, List.set_cons_succ]
        refine wpAnyH_take (i := 7) (oi := ⟨_, _, _, _, _, _⟩) (v := ?_) rfl (by kernel_rfl) (by kernel_rfl) (by kernel_rfl) (fun _ _ _ h => h) (Or.inl ⟨by rfl, ?_⟩) hS ?_
        rotate_left
        · intro w0 hs; have hc0 := (hs.cell (p := ⟨W.heap.size, 0, none⟩) hgl).trans c0; clear hs; go_simp; try (with_reducible rfl)
        try simp only [Act.put, List.setIfInBounds_toArray, List.set_cons_zero, List.set_cons_succ]
        refine wpAnyH_take (i := 8) (oi := ⟨_, _, _, _, _, _⟩) (v := ?_) rfl (by kernel_rfl) (by kernel_rfl) (by kernel_rfl) (fun _ _ _ h => h) (Or.inl ⟨by rfl, ?_⟩) hS ?_
        rotate_left
        · intro w0 hs; have hc0 := (hs.cell (p := ⟨W.heap.size, 0, none⟩) hgl).trans c0; clear hs; go_simp; try (with_reducible rfl)
        try simp only [Act.put, List.setIfInBounds_toArray, List.set_cons_zero, List.set_cons_succ]
        refine wpAnyH_take (i := 9) (oi := ⟨_, _, _, _, _, _⟩) (v := ?_) rfl (by kernel_rfl) (by kernel_rfl) (by kernel_rfl) (fun _ _ _ h => h) (Or.inl ⟨by rfl, ?_⟩) hS ?_
        rotate_left
        · intro w0 hs; have hc0 := (hs.cell (p := ⟨W.heap.size, 0, none⟩) hgl).trans c0; clear hs; go_simp; try (with_reducible rfl)
        try simp only [Act.put, List.setIfInBounds_toArray, List.set_cons_zero, List.set_cons_succ]
        refine wpAnyH_take (i := 10) (oi := ⟨_, _, _, _, _, _⟩) (v := ?_) rfl (by kernel_rfl) (by kernel_rfl) (by kernel_rfl) (fun _ _ _ h => h) (Or.inl ⟨by rfl, ?_⟩) hS ?_
        rotate_left
        · intro w0 hs; have hc0 := (hs.cell (p := ⟨W.heap.size, 0, none⟩) hgl).trans c0; clear hs; go_simp; try (with_reducible rfl)
        try simp only [Act.put, List.setIfInBounds_toArray, List.set_cons_zero, List.set_cons_succ]
        refine wpAnyH_ready (rs := [11]) (by kernel_rfl) (by simp) ?_
        refine AllReadyH.cons (o := ⟨_, _, _, _, _, _⟩) rfl (fun K hK => ?_) AllReadyH.nil
        rw [if_pos (by rfl)]
        go_step
        refine (nbLeave (.pointer (some ⟨W.heap.size + 1, 0, none⟩)) x _ (fun w' hb => NB w' (hS.trans (hb.mono hS.size)))).mono ?_
        rintro e w2 ⟨rfl, hw2⟩
        simp only []
        refine hK.out _ _ (hS.trans (hw2.mono hS.size)) (fun hS' => ?_)
        clear hS hK
        have hS := hS'; clear hS'
        try simp only [Act.put, List.setIfInBounds_toArray, List.set_cons_zero, List.set_cons_succ]
        refine wpAnyH_take (i := 12) (oi := ⟨_, _, _, _, _, _⟩) (v := ?_) rfl (by kernel_rfl) (by kernel_rfl) (by kernel_rfl) (fun _ _ _ h => h) (Or.inl ⟨by rfl, ?_⟩) hS ?_
        rotate_left
        · intro w0 hs; have hc0 := (hs.cell (p := ⟨W.heap.size, 0, none⟩) hgl).trans c0; clear hs; go_simp; try (with_reducible rfl)
        try simp only [Act.put, List.setIfInBounds_toArray, List.set_cons_zero, List.set_cons_succ]
        refine wpAnyH_take (i := 13) (oi := ⟨_, _, _, _, _, _⟩) (v := ?_) rfl (by kernel_rfl) (by kernel_rfl) (by kernel_rfl) (fun _ _ _ h => h) (Or.inl ⟨by rfl, ?_⟩) hS ?_
        rotate_left
        · intro w0 hs; have hc0 := (hs.cell (p := ⟨W.heap.size, 0, none⟩) hgl).trans c0; clear hs; go_simp; try (with_reducible rfl)
        try simp only [Act.put, List.setIfInBounds_toArray, List.set_cons_zero, List.set_cons_succ]
        refine wpAnyH_take (i := 14) (oi := ⟨_, _, _, _, _, _⟩) (v := ?_) rfl (by kernel_rfl) (by kernel_rfl) (by kernel_rfl) (fun _ _ _ h => h) (Or.inl ⟨by rfl, ?_⟩) hS ?_
        rotate_left
        · intro w0 hs; have hc0 := (hs.cell (p := ⟨W.heap.size, 0, none⟩) hgl).trans c0; clear hs; go_simp; try (with_reducible rfl)
        try simp only [Act.put, List.setIfInBounds_toArray, List.set_cons_zero, List.set_cons_succ]
        refine wpAnyH_take (i := 15) (oi := ⟨_, _, _, _, _, _⟩) (v := ?_) rfl (by kernel_rfl) (by kernel_rfl) (by kernel_rfl) (fun _ _ _ h => h) (Or.inl ⟨by rfl, ?_⟩) hS ?_
        rotate_left
        · intro w0 hs; have hc0 := (hs.cell (p := ⟨W.heap.size, 0, none⟩) hgl).trans c0; clear hs; go_simp; try (with_reducible rfl)
        try simp only [Act.put, List.setIfInBounds_toArray, List.set_cons_zero, List.set_cons_succ]
        refine wpAnyH_take (i := 16) (oi := ⟨_, _, _, _, _, _⟩) (v := ?_) rfl (by kernel_rfl) (by kernel_rfl) (by kernel_rfl) (fun _ _ _ h => h) (Or.inl ⟨by rfl, ?_⟩) hS ?_
        rotate_left
        · intro w0 hs; have hc0 := (hs.cell (p := ⟨W.heap.size, 0, none⟩) hgl).trans c0; clear hs; go_simp; try (with_reducible rfl)
        try simp only [Act.put, List.setIfInBounds_toArray, List.set_cons_zero, List.set_cons_succ]
        refine wpAnyH_take (i := 17) (oi := ⟨_, _, _, _, _, _⟩) (v := ?_) rfl (by kernel_rfl) (by kernel_rfl) (by kernel_rfl) (fun _ _ _ h => h) (Or.inl ⟨by rfl, ?_⟩) hS ?_
        rotate_left
        · intro w0 hs; have hc0 := (hs.cell (p := ⟨W.heap.size, 0, none⟩) hgl).trans c0; clear hs; go_simp; try (with_reducible rfl)
        try simp only [Act.put, List.setIfInBounds_toArray, List.set_cons_zero, List.set_cons_succ]
        refine wpAnyH_ready (rs := [18]) (by kernel_rfl) (by simp) ?_
        refine AllReadyH.cons (o := ⟨_, _, _, _, _, _⟩) rfl (fun K hK => ?_) AllReadyH.nil
        rw [if_pos (by rfl)]
        go_step
        refine (nbHas (.pointer (some ⟨W.heap.size + 1, 0, none⟩)) x _ (fun w' hb => NB w' (hS.trans (hb.mono hS.size)))).mono ?_
        rintro e w3 ⟨rfl, hw3⟩
        simp only []
        refine hK.out _ _ (hS.trans (hw3.mono hS.size)) (fun hS' => ?_)
        clear hS hK
        have hS := hS'; clear hS'
        try simp only [Act.put, List.setIfInBounds_toArray, List.set_cons_zero, List.set_cons_succ]
        refine wpAnyH_take (i := 19) (oi := ⟨_, _, _, _, _, _⟩) (v := ?_) rfl (by kernel_rfl) (by kernel_rfl) (by kernel_rfl) (fun _ _ _ h => h) (Or.inl ⟨by rfl, ?_⟩) hS ?_
        rotate_left
        · intro w0 hs; have hc0 := (hs.cell (p := ⟨W.heap.size, 0, none⟩) hgl).trans c0; clear hs; go_simp; try (with_reducible rfl)
        try simp only [Act.put, List.setIfInBounds_toArray, List.set_cons_zero, List.set_cons_succ]
        refine wpAnyH_take (i := 20) (oi := ⟨_, _, _, _, _, _⟩) (v := ?_) rfl (by kernel_rfl) (by kernel_rfl) (by kernel_rfl) (fun _ _ _ h => h) (Or.inl ⟨by rfl, ?_⟩) hS ?_
        rotate_left
        · intro w0 hs; have hc0 := (hs.cell (p := ⟨W.heap.size, 0, none⟩) hgl).trans c0; clear hs; go_simp; try (with_reducible rfl)
        try simp only [Act.put, List.setIfInBounds_toArray, List.set_cons_zero, List.set_cons_succ]
        refine wpAnyH_take (i := 21) (oi := ⟨_, _, _, _, _, _⟩) (v := ?_) rfl (by kernel_rfl) (by kernel_rfl) (by kernel_rfl) (fun _ _ _ h => h) (Or.inl ⟨by rfl, ?_⟩) hS ?_
        rotate_left
        · intro w0 hs; have hc0 := (hs.cell (p := ⟨W.heap.size, 0, none⟩) hgl).trans c0; clear hs; go_simp; try (with_reducible rfl)
        try simp only [Act.put, List.setIfInBounds_toArray, List.set_cons_zero, List.set_cons_succ]
        refine wpAnyH_take (i := 24) (oi := ⟨_, _, _, _, _, _⟩) (v := ?_) rfl (by kernel_rfl) (by kernel_rfl) (by kernel_rfl) (fun _ _ _ h => h) (Or.inl ⟨by rfl, ?_⟩) hS ?_
        rotate_left
        · intro w0 hs; have hc0 := (hs.cell (p := ⟨W.heap.size, 0, none⟩) hgl).trans c0; clear hs; go_simp; try (with_reducible rfl)
        try simp only [Act.put, List.setIfInBounds_toArray, List.set_cons_zero, List.set_cons_succ]
        refine wpAnyH_take (i := 25) (oi := ⟨_, _, _, _, _, _⟩) (v := ?_) rfl (by kernel_rfl) (by kernel_rfl) (by kernel_rfl) (fun _ _ _ h => h) (Or.inl ⟨by rfl, ?_⟩) hS ?_
        rotate_left
        · intro w0 hs; have hc0 := (hs.cell (p := ⟨W.heap.size, 0, none⟩) hgl).trans c0; clear hs; go_simp; try (with_reducible rfl)
        try simp only [Act.put, List.setIfInBounds_toArray, List.set_cons_zero, List.set_cons_succ]
        refine wpAnyH_take (i := 26) (oi := ⟨_, _, _, _, _, _⟩) (v := hv n) rfl (by kernel_rfl) (by kernel_rfl) (by kernel_rfl) (fun _ _ _ h => h) (yieldsIf_load_mid (by rfl) 24 (.tmp 38) rfl W.heap.size 1 rfl (hls n) (.array 32 5) (fun _ hs j v hv => (hs.cell (p := ⟨W.heap.size, _, none⟩) hgl).trans (ch j v hv)) Tryd.underlying24 rfl LDI) hS ?_
        try simp only [Act.put, List.setIfInBounds_toArray, List.set_cons_zero, List.set_cons_succ]
        refine wpAnyH_ready (rs := [22]) (by kernel_rfl) (by simp) ?_
        refine AllReadyH.cons (o := ⟨_, _, _, _, _, _⟩) rfl (fun K hK => ?_) AllReadyH.nil
        rw [if_pos (by rfl)]
        go_step
        refine (nbSums (.pointer (some ⟨W.heap.size + 1, 0, none⟩)) _ (fun w' hb => NB w' (hS.trans (hb.mono hS.size)))).mono ?_
        rintro e w4 ⟨rfl, hw4⟩
        simp only []
        refine hK.out _ _ (hS.trans (hw4.mono hS.size)) (fun hS' => ?_)
        clear hS hK
        have hS := hS'; clear hS'
        try simp only [Act.put, List.setIfInBounds_toArray, List.set_cons_zero, List.set_cons_succ]
        refine wpAnyH_take (i := 23) (oi := ⟨_, _, _, _, _, _⟩) (v := ?_) rfl (by kernel_rfl) (by kernel_rfl) (by kernel_rfl) (fun _ _ _ h => h) (Or.inl ⟨by rfl, ?_⟩) hS ?_
        rotate_left
        · intro w0 hs; have hc0 := (hs.cell (p := ⟨W.heap.size, 0, none⟩) hgl).trans c0; clear hs; go_simp; try (with_reducible rfl)
        try simp only [Act.put, List.setIfInBounds_toArray, List.set_cons_zero, List.set_cons_succ]
        refine wpAnyH_ready (rs := [27]) (by kernel_rfl) (by simp) ?_
        refine AllReadyH.cons (o := ⟨_, _, _, _, _, _⟩) rfl (fun K hK => ?_) AllReadyH.nil
        rw [if_pos (by rfl)]
        go_step
        refine (nbPeers (.pointer (some ⟨W.heap.size + 1, 0, none⟩)) n _ (fun w' hb => NB w' (hS.trans (hb.mono hS.size)))).mono ?_
        rintro e w5 ⟨rfl, hw5⟩
        simp only []
        refine hK.out _ _ (hS.trans (hw5.mono hS.size)) (fun hS' => ?_)
        clear hS hK
        have hS := hS'; clear hS'
        try simp only [Act.put, List.setIfInBounds_toArray, List.set_cons_zero, List.set_cons_succ]
        refine wpAnyH_take (i := 28) (oi := ⟨_, _, _, _, _, _⟩) (v := ?_) rfl (by kernel_rfl) (by kernel_rfl) (by kernel_rfl) (fun _ _ _ h => h) (Or.inl ⟨by rfl, ?_⟩) hS ?_
        rotate_left
        · intro w0 hs; have hc0 := (hs.cell (p := ⟨W.heap.size, 0, none⟩) hgl).trans c0; clear hs; go_simp; try (with_reducible rfl)
        try simp only [Act.put, List.setIfInBounds_toArray, List.set_cons_zero, List.set_cons_succ]
        refine wpAnyH_take (i := 29) (oi := ⟨_, _, _, _, _, _⟩) (v := ?_) rfl (by kernel_rfl) (by kernel_rfl) (by kernel_rfl) (fun _ _ _ h => h) (Or.inl ⟨by rfl, ?_⟩) hS ?_
        rotate_left
        · intro w0 hs; have hc0 := (hs.cell (p := ⟨W.heap.size, 0, none⟩) hgl).trans c0; clear hs; go_simp; try (with_reducible rfl)
        try simp only [Act.put, List.setIfInBounds_toArray, List.set_cons_zero, List.set_cons_succ]
        refine wpAnyH_take (i := 30) (oi := ⟨_, _, _, _, _, _⟩) (v := ?_) rfl (by kernel_rfl) (by kernel_rfl) (by kernel_rfl) (fun _ _ _ h => h) (Or.inl ⟨by rfl, ?_⟩) hS ?_
        rotate_left
        · intro w0 hs; have hc0 := (hs.cell (p := ⟨W.heap.size, 0, none⟩) hgl).trans c0; clear hs; go_simp; try (with_reducible rfl)
        try simp only [Act.put, List.setIfInBounds_toArray, List.set_cons_zero, List.set_cons_succ]
        refine wpAnyH_take (i := 31) (oi := ⟨_, _, _, _, _, _⟩) (v := ?_) rfl (by kernel_rfl) (by kernel_rfl) (by kernel_rfl) (fun _ _ _ h => h) (Or.inl ⟨by rfl, ?_⟩) hS ?_
        rotate_left
        · intro w0 hs; have hc0 := (hs.cell (p := ⟨W.heap.size, 0, none⟩) hgl).trans c0; clear hs; go_simp; try (with_reducible rfl)
        try simp only [Act.put, List.setIfInBounds_toArray, List.set_cons_zero, List.set_cons_succ]
        refine wpAnyH_done (by kernel_rfl) ?_ _
        have HS := Lib.hid hS
        clear hS
        go_wp2
        go_roundg (2 - (1 + 1))
        case measure => omega
        case rel => exact ⟨1 + 1, by omega, rfl, rfl, ST.out.keep HS.out⟩
    · obtain rfl : k = 2 := by omega
      rw [show ((2 : Nat) : Int) = 2 from rfl]
      go_wp2_with fail
      refine (nbTexts wr).mono ?_
      rintro e w1 ⟨rfl, rfl⟩
      go_wp2_with (refine wpl_loadHg (by rfl) (.tmp 51) rfl W.heap.size 1 rfl n ch ?_)
      refine (nbLies _ n wr).mono ?_
      rintro e w2 ⟨rfl, hb⟩
      have HB := Lib.hid hb
      clear hb
      go_wp2
      go_ret
      exact ⟨rfl, ST.out.2.2.2.trans (HB.out.mono ST.out.2.2.2.size)⟩
end Go.Proofs.YtgedpgdefafofaaDoor
