/- The law TapeLives: does, where it appends. -/
import Derived.Test.YtfeljjbelnlojaaTapeDoes
namespace Go.Proofs.Ytfeljjbelnlojaa
open Go Go.RowKit
set_option linter.unusedSimpArgs false
set_option linter.unusedVariables false

/-- bytes of some kind -/
def Bytes8 (w : World) (g len : Nat) : Prop := ∃ cur, Blk w g cur 5 ∧ ∀ j, j < len → ∃ x, cur[j]? = some (.int .u8 x)
theorem Bytes8.of_row {w : World} {q : Option Addr} {c : Nat} {xs : List Int} {o : Option Nat} (h : Row w 5 (.slice q xs.length c) xs o) : ∀ g, o = some g → Bytes8 w g xs.length := by
  intro g hg
  rcases h with ⟨_, _, h0⟩ | ⟨g', cap, cur, h0, h1, h2, h3, h4, h5, h6⟩
  · rw [h0] at hg; cases hg
  · rw [h0] at hg; cases hg
    refine ⟨cur, h2, fun j hj => ⟨xs.getD j 0, (h2.cell j).symm.trans (Row.cell h2 h6 j hj)⟩⟩
theorem Bytes8.set {w : World} {g len : Nat} (h : Bytes8 w g len) (j : Nat) (x : Int) : Bytes8 (w.setCell ⟨g, j, none⟩ (.int .u8 x)) g len := by
  obtain ⟨cur, h1, h2⟩ := h
  refine ⟨_, h1.set j _, fun i hi => ?_⟩
  obtain ⟨y, hy⟩ := h2 i hi
  have hlt := (Array.getElem?_eq_some_iff.1 hy).1
  by_cases e : j = i
  · subst e; exact ⟨x, by simp [hlt]⟩
  · exact ⟨y, by rw [Array.getElem?_setIfInBounds_ne e, hy]⟩
set_option maxHeartbeats 1600000 in
theorem does_app0 {F : Nat → Prop} {p r : Nat} {a : TS} (op n : Int) (q : Option Addr) (c : Nat) (ys : List Int) (w : World) (e1 : wrap64 ((IntKind.u64.wrap op).tmod 9) = 0) (hn : n ≤ 9223372036854775807) (h : Two F w p r a a) (ha : a.ok)
    (hy : Lib.BytesIn w q ys.length ys) (hyl : ys.length ≤ 140737488355328) (hq : 0 < ys.length → ∀ d, q = some d → ¬ F d.block) :
    Calls Try.prog 23 #[.pointer (some ⟨p, 0, none⟩), .pointer (some ⟨r, 0, none⟩), .agg #[.int .i64 op, .int .i64 n, .slice q ys.length c]] w fun e w' => e = .returned (.bool true) ∧ ∃ a', TS.ok a' ∧ Left F w w' p r a' a' := by
  have H0 := Lib.hid (h.keep (X := fun _ => False) ((Keep.refl _ w).alloc (.cells #[.int .i64 op, .int .i64 n, .slice q ys.length c] 40)) (fun _ _ h => h))
  have B0 := Lib.hid (Blk.new w #[.int .i64 op, .int .i64 n, .slice q ys.length c] 40)
  have K0 := Lib.hid ((Keep.refl F w).alloc (.cells #[.int .i64 op, .int .i64 n, .slice q ys.length c] 40))
  have gF : ¬ F w.heap.size := fun h' => Nat.lt_irrefl _ (h.lt _ h')
  have HY := Lib.hid (bytes_keep (X := fun _ => False) hy ((Keep.refl _ w).alloc (.cells #[.int .i64 op, .int .i64 n, .slice q ys.length c] 40)) (fun _ _ _ h => h))
  have HQ := Lib.hid hq
  have HA := Lib.hid ha
  have hsub : ∀ k, F k → F k ∨ w.heap.size ≤ k := fun k h => .inl h
  go_enter Try.func23, Try.ntmps23
  go_upto_region 1 with fail
  generalize w.alloc (.cells #[.int .i64 op, .int .i64 n, .slice q ys.length c] 40) = w0 at *
  generalize hg : w.heap.size = g at *
  have lg := B0.out.lt
  have cb := B0.out.cell
  clear h ha hy hq
  go_upto_region 4 with fail
  rw [e1]
  clear e1
  have P1 := Lib.hid (clone_arg q c ys w0 HY.out hyl)
  go_wp2_with fail
  refine P1.out.mono ?_
  rintro e w1 ⟨q1, c1, og, rfl, r1, ho1, hb1⟩
  have T1 := Lib.hid (H0.out.more hb1)
  have HB1 := Lib.hid hb1
  have R1 := Lib.hid r1
  have HO1 := Lib.hid ho1
  have hogF : ∀ k, F k → ¬ og = some k := fun k hk e => by have := ho1 k e; have := H0.out.lt k hk; omega
  obtain ⟨q1', c1', he1, hin1, _⟩ := r1.form
  simp at he1
  obtain ⟨rfl, rfl⟩ := he1
  have P2 := Lib.hid (p_append (ys := ys) q1 c1 T1.out HA.out hin1 (by omega) (fun h0 d hd hf => by
    rcases R1.out with ⟨h, h', _⟩ | ⟨g', cap, cur, h, h', _⟩
    · subst h'; simp at h0
    · simp at h'; rw [h'.1] at hd; cases hd; exact hogF _ hf h))
  clear r1 ho1 hb1 hin1
  go_wp2_with fail
  refine P2.out.mono ?_
  rintro e w2 ⟨rfl, F1, t1, k1, s1⟩
  have R2 := Lib.hid (R1.out.keep k1 (fun g' hg' hf => hogF _ hf hg'))
  have T2 := Lib.hid t1
  have K1 := Lib.hid k1
  have S1 := Lib.hid s1
  have HS : 0 < ys.length → ∃ g', og = some g' ∧ q1 = some ⟨g', 0, none⟩ := fun h0 => by
    rcases R1.out with ⟨h, h', _⟩ | ⟨g', cap, cur, h, h', _⟩
    · subst h'; simp at h0
    · simp at h'; exact ⟨g', h, h'.1⟩
  have cb2 : ∀ o, w2.cell? ⟨g, o, none⟩ = (#[.int .i64 op, .int .i64 n, .slice q ys.length c] : Array Value)[o]? := fun o => ((k1.cell (p := ⟨g, o, none⟩) (Nat.lt_of_lt_of_le lg HB1.out.size) gF).trans (HB1.out.cell (p := ⟨g, o, none⟩) lg)).trans (cb o)
  have hogn : og ≠ some g := fun e => by have := HO1.out g e; omega
  have lg2 : g < w2.heap.size := Nat.lt_of_lt_of_le (Nat.lt_of_lt_of_le lg HB1.out.size) k1.size
  have BL := Lib.hid (show 0 < ys.length → ∀ d, q = some d → d.block < w0.heap.size from fun h0 => bytes_lt HY.out h0)
  generalize hlen : ys.length = len at *
  clear t1 k1 s1
  go_wp2_with fail
  go_loopg [37] len (fun gh i wx => ∃ j : Nat, j ≤ len ∧ i = .int .i64 j ∧ gh = len - j ∧ Hid (Keep (fun k => og = some k) w2 wx ∧ ∀ g', og = some g' → Bytes8 wx g' len))
  case atStart => exact ⟨0, by omega, rfl, rfl, Keep.refl _ _, by rw [← hlen]; exact Bytes8.of_row (by rw [hlen]; exact R2.out)⟩
  case round =>
    obtain ⟨j, hj, rfl, rfl, J⟩ := hrel
    by_cases hlt : j < len
    · obtain ⟨g', rfl, rfl⟩ := HS (by omega)
      obtain ⟨cur, hbk, hcs⟩ := J.out.2 g' rfl
      obtain ⟨x, hx⟩ := hcs j hlt
      have cc := (hbk.cell j).trans hx
      have ff := hbk.free j
      clear hbk hcs
      go_wp2
      go_roundg (len - (j + 1))
      case measure => omega
      case rel => exact ⟨j + 1, by omega, by go_num, rfl, J.out.1.set (.inl rfl) _, fun g'' e => by cases e; exact (J.out.2 g' rfl).set j _⟩
    · obtain rfl : j = len := by omega
      have T3 := Lib.hid (T2.out.keep J.out.1 (fun k hk e => by
        rcases S1.out k hk with h | h
        · exact hogF k h e
        · have := R1.out.lt k e; omega))
      have cb3 : ∀ o, wr.cell? ⟨g, o, none⟩ = (#[.int .i64 op, .int .i64 n, .slice q ys.length c] : Array Value)[o]? := fun o => ((J.out.1.cell (p := ⟨g, o, none⟩) lg2 hogn).trans (by rw [cb2 o, hlen]))
      have HYF := Lib.hid (bytes_keep (bytes_keep (bytes_keep (X := fun _ => False) HY.out (Keep.of_below HB1.out) (fun _ _ _ h => h)) K1.out (fun h0 d hd => HQ.out h0 d hd)) J.out.1 (fun h0 d hd e => by
        have := HO1.out _ e
        have := BL.out h0 d hd
        omega))
      have P3 := Lib.hid (q_append (ys := ys) q c T3.out HA.out (by rw [hlen]; exact HYF.out) (by omega) (fun h0 d hd hf => by
        rw [hlen] at h0
        rcases S1.out _ hf with h | h
        · exact HQ.out h0 d hd h
        · have := BL.out h0 d hd
          have := HB1.out.size
          omega))
      rw [hlen] at P3 cb3
      have JK := Lib.hid J.out.1
      clear J cb cb2
      go_wp2_with fail
      refine P3.out.mono ?_
      rintro e w4 ⟨rfl, hl2⟩
      have HL := Lib.hid hl2
      clear hl2
      go_wp2
      go_ret
      have K12 : Keep F w0 wr := ((Keep.of_below HB1.out).trans K1.out).trans' JK.out (fun k e => .inr (HO1.out k e))
      exact ⟨by simp, _, ok_append HA.out, Left.trans K0.out (fun k e => .inl e) (Left.trans K12 (fun k e => (S1.out k e).imp id (fun h => Nat.le_trans HB1.out.size h)) HL.out)⟩
set_option maxHeartbeats 1600000 in
theorem does_app1 {F : Nat → Prop} {p r : Nat} {a : TS} (op n : Int) (q : Option Addr) (c : Nat) (ys : List Int) (w : World) (e1 : wrap64 ((IntKind.u64.wrap op).tmod 9) = 1) (hn : n ≤ 9223372036854775807) (h : Two F w p r a a) (ha : a.ok)
    (hy : Lib.BytesIn w q ys.length ys) (hyl : ys.length ≤ 140737488355328) (hq : 0 < ys.length → ∀ d, q = some d → ¬ F d.block) :
    Calls Try.prog 23 #[.pointer (some ⟨p, 0, none⟩), .pointer (some ⟨r, 0, none⟩), .agg #[.int .i64 op, .int .i64 n, .slice q ys.length c]] w fun e w' => e = .returned (.bool true) ∧ ∃ a', TS.ok a' ∧ Left F w w' p r a' a' := by
  have H0 := Lib.hid (h.keep (X := fun _ => False) ((Keep.refl _ w).alloc (.cells #[.int .i64 op, .int .i64 n, .slice q ys.length c] 40)) (fun _ _ h => h))
  have B0 := Lib.hid (Blk.new w #[.int .i64 op, .int .i64 n, .slice q ys.length c] 40)
  have K0 := Lib.hid ((Keep.refl F w).alloc (.cells #[.int .i64 op, .int .i64 n, .slice q ys.length c] 40))
  have gF : ¬ F w.heap.size := fun h' => Nat.lt_irrefl _ (h.lt _ h')
  have HY := Lib.hid (bytes_keep (X := fun _ => False) hy ((Keep.refl _ w).alloc (.cells #[.int .i64 op, .int .i64 n, .slice q ys.length c] 40)) (fun _ _ _ h => h))
  have HQ := Lib.hid hq
  have HA := Lib.hid ha
  have hsub : ∀ k, F k → F k ∨ w.heap.size ≤ k := fun k h => .inl h
  go_enter Try.func23, Try.ntmps23
  go_upto_region 1 with fail
  generalize w.alloc (.cells #[.int .i64 op, .int .i64 n, .slice q ys.length c] 40) = w0 at *
  generalize hg : w.heap.size = g at *
  have lg := B0.out.lt
  have cb := B0.out.cell
  clear h ha hy hq
  go_upto_region 4 with fail
  rw [e1]
  clear e1
  have P1 := Lib.hid (clone_arg q c ys w0 HY.out hyl)
  go_wp2_with fail
  refine P1.out.mono ?_
  rintro e w1 ⟨q1, c1, og, rfl, r1, ho1, hb1⟩
  have T1 := Lib.hid (H0.out.more hb1)
  have HB1 := Lib.hid hb1
  have R1 := Lib.hid r1
  have HO1 := Lib.hid ho1
  have hogF : ∀ k, F k → ¬ og = some k := fun k hk e => by have := ho1 k e; have := H0.out.lt k hk; omega
  obtain ⟨q1', c1', he1, hin1, _⟩ := r1.form
  simp at he1
  obtain ⟨rfl, rfl⟩ := he1
  have P2 := Lib.hid (p_append (ys := ys) q1 c1 T1.out HA.out hin1 (by omega) (fun h0 d hd hf => by
    rcases R1.out with ⟨h, h', _⟩ | ⟨g', cap, cur, h, h', _⟩
    · subst h'; simp at h0
    · simp at h'; rw [h'.1] at hd; cases hd; exact hogF _ hf h))
  clear r1 ho1 hb1 hin1
  go_wp2_with fail
  refine P2.out.mono ?_
  rintro e w2 ⟨rfl, F1, t1, k1, s1⟩
  have R2 := Lib.hid (R1.out.keep k1 (fun g' hg' hf => hogF _ hf hg'))
  have T2 := Lib.hid t1
  have K1 := Lib.hid k1
  have S1 := Lib.hid s1
  have HS : 0 < ys.length → ∃ g', og = some g' ∧ q1 = some ⟨g', 0, none⟩ := fun h0 => by
    rcases R1.out with ⟨h, h', _⟩ | ⟨g', cap, cur, h, h', _⟩
    · subst h'; simp at h0
    · simp at h'; exact ⟨g', h, h'.1⟩
  have cb2 : ∀ o, w2.cell? ⟨g, o, none⟩ = (#[.int .i64 op, .int .i64 n, .slice q ys.length c] : Array Value)[o]? := fun o => ((k1.cell (p := ⟨g, o, none⟩) (Nat.lt_of_lt_of_le lg HB1.out.size) gF).trans (HB1.out.cell (p := ⟨g, o, none⟩) lg)).trans (cb o)
  have hogn : og ≠ some g := fun e => by have := HO1.out g e; omega
  have lg2 : g < w2.heap.size := Nat.lt_of_lt_of_le (Nat.lt_of_lt_of_le lg HB1.out.size) k1.size
  have BL := Lib.hid (show 0 < ys.length → ∀ d, q = some d → d.block < w0.heap.size from fun h0 => bytes_lt HY.out h0)
  generalize hlen : ys.length = len at *
  clear t1 k1 s1
  go_wp2_with fail
  go_loopg [37] len (fun gh i wx => ∃ j : Nat, j ≤ len ∧ i = .int .i64 j ∧ gh = len - j ∧ Hid (Keep (fun k => og = some k) w2 wx ∧ ∀ g', og = some g' → Bytes8 wx g' len))
  case atStart => exact ⟨0, by omega, rfl, rfl, Keep.refl _ _, by rw [← hlen]; exact Bytes8.of_row (by rw [hlen]; exact R2.out)⟩
  case round =>
    obtain ⟨j, hj, rfl, rfl, J⟩ := hrel
    by_cases hlt : j < len
    · obtain ⟨g', rfl, rfl⟩ := HS (by omega)
      obtain ⟨cur, hbk, hcs⟩ := J.out.2 g' rfl
      obtain ⟨x, hx⟩ := hcs j hlt
      have cc := (hbk.cell j).trans hx
      have ff := hbk.free j
      clear hbk hcs
      go_wp2
      go_roundg (len - (j + 1))
      case measure => omega
      case rel => exact ⟨j + 1, by omega, by go_num, rfl, J.out.1.set (.inl rfl) _, fun g'' e => by cases e; exact (J.out.2 g' rfl).set j _⟩
    · obtain rfl : j = len := by omega
      have T3 := Lib.hid (T2.out.keep J.out.1 (fun k hk e => by
        rcases S1.out k hk with h | h
        · exact hogF k h e
        · have := R1.out.lt k e; omega))
      have cb3 : ∀ o, wr.cell? ⟨g, o, none⟩ = (#[.int .i64 op, .int .i64 n, .slice q ys.length c] : Array Value)[o]? := fun o => ((J.out.1.cell (p := ⟨g, o, none⟩) lg2 hogn).trans (by rw [cb2 o, hlen]))
      have HYF := Lib.hid (bytes_keep (bytes_keep (bytes_keep (X := fun _ => False) HY.out (Keep.of_below HB1.out) (fun _ _ _ h => h)) K1.out (fun h0 d hd => HQ.out h0 d hd)) J.out.1 (fun h0 d hd e => by
        have := HO1.out _ e
        have := BL.out h0 d hd
        omega))
      have P3 := Lib.hid (q_append (ys := ys) q c T3.out HA.out (by rw [hlen]; exact HYF.out) (by omega) (fun h0 d hd hf => by
        rw [hlen] at h0
        rcases S1.out _ hf with h | h
        · exact HQ.out h0 d hd h
        · have := BL.out h0 d hd
          have := HB1.out.size
          omega))
      rw [hlen] at P3 cb3
      have JK := Lib.hid J.out.1
      clear J cb cb2
      go_wp2_with fail
      refine P3.out.mono ?_
      rintro e w4 ⟨rfl, hl2⟩
      have HL := Lib.hid hl2
      clear hl2
      go_wp2
      go_ret
      have K12 : Keep F w0 wr := ((Keep.of_below HB1.out).trans K1.out).trans' JK.out (fun k e => .inr (HO1.out k e))
      exact ⟨by simp, _, ok_append HA.out, Left.trans K0.out (fun k e => .inl e) (Left.trans K12 (fun k e => (S1.out k e).imp id (fun h => Nat.le_trans HB1.out.size h)) HL.out)⟩
set_option maxHeartbeats 1600000 in
theorem does_app2 {F : Nat → Prop} {p r : Nat} {a : TS} (op n : Int) (q : Option Addr) (c : Nat) (ys : List Int) (w : World) (e1 : wrap64 ((IntKind.u64.wrap op).tmod 9) = 2) (hn : n ≤ 9223372036854775807) (h : Two F w p r a a) (ha : a.ok)
    (hy : Lib.BytesIn w q ys.length ys) (hyl : ys.length ≤ 140737488355328) (hq : 0 < ys.length → ∀ d, q = some d → ¬ F d.block) :
    Calls Try.prog 23 #[.pointer (some ⟨p, 0, none⟩), .pointer (some ⟨r, 0, none⟩), .agg #[.int .i64 op, .int .i64 n, .slice q ys.length c]] w fun e w' => e = .returned (.bool true) ∧ ∃ a', TS.ok a' ∧ Left F w w' p r a' a' := by
  have H0 := Lib.hid (h.keep (X := fun _ => False) ((Keep.refl _ w).alloc (.cells #[.int .i64 op, .int .i64 n, .slice q ys.length c] 40)) (fun _ _ h => h))
  have B0 := Lib.hid (Blk.new w #[.int .i64 op, .int .i64 n, .slice q ys.length c] 40)
  have K0 := Lib.hid ((Keep.refl F w).alloc (.cells #[.int .i64 op, .int .i64 n, .slice q ys.length c] 40))
  have gF : ¬ F w.heap.size := fun h' => Nat.lt_irrefl _ (h.lt _ h')
  have HY := Lib.hid (bytes_keep (X := fun _ => False) hy ((Keep.refl _ w).alloc (.cells #[.int .i64 op, .int .i64 n, .slice q ys.length c] 40)) (fun _ _ _ h => h))
  have HQ := Lib.hid hq
  have HA := Lib.hid ha
  have hsub : ∀ k, F k → F k ∨ w.heap.size ≤ k := fun k h => .inl h
  go_enter Try.func23, Try.ntmps23
  go_upto_region 1 with fail
  generalize w.alloc (.cells #[.int .i64 op, .int .i64 n, .slice q ys.length c] 40) = w0 at *
  generalize hg : w.heap.size = g at *
  have lg := B0.out.lt
  have cb := B0.out.cell
  clear h ha hy hq
  go_upto_region 4 with fail
  rw [e1]
  clear e1
  have P1 := Lib.hid (clone_arg q c ys w0 HY.out hyl)
  go_wp2_with fail
  refine P1.out.mono ?_
  rintro e w1 ⟨q1, c1, og, rfl, r1, ho1, hb1⟩
  have T1 := Lib.hid (H0.out.more hb1)
  have HB1 := Lib.hid hb1
  have R1 := Lib.hid r1
  have HO1 := Lib.hid ho1
  have hogF : ∀ k, F k → ¬ og = some k := fun k hk e => by have := ho1 k e; have := H0.out.lt k hk; omega
  obtain ⟨q1', c1', he1, hin1, _⟩ := r1.form
  simp at he1
  obtain ⟨rfl, rfl⟩ := he1
  have P2 := Lib.hid (p_append (ys := ys) q1 c1 T1.out HA.out hin1 (by omega) (fun h0 d hd hf => by
    rcases R1.out with ⟨h, h', _⟩ | ⟨g', cap, cur, h, h', _⟩
    · subst h'; simp at h0
    · simp at h'; rw [h'.1] at hd; cases hd; exact hogF _ hf h))
  clear r1 ho1 hb1 hin1
  go_wp2_with fail
  refine P2.out.mono ?_
  rintro e w2 ⟨rfl, F1, t1, k1, s1⟩
  have R2 := Lib.hid (R1.out.keep k1 (fun g' hg' hf => hogF _ hf hg'))
  have T2 := Lib.hid t1
  have K1 := Lib.hid k1
  have S1 := Lib.hid s1
  have HS : 0 < ys.length → ∃ g', og = some g' ∧ q1 = some ⟨g', 0, none⟩ := fun h0 => by
    rcases R1.out with ⟨h, h', _⟩ | ⟨g', cap, cur, h, h', _⟩
    · subst h'; simp at h0
    · simp at h'; exact ⟨g', h, h'.1⟩
  have cb2 : ∀ o, w2.cell? ⟨g, o, none⟩ = (#[.int .i64 op, .int .i64 n, .slice q ys.length c] : Array Value)[o]? := fun o => ((k1.cell (p := ⟨g, o, none⟩) (Nat.lt_of_lt_of_le lg HB1.out.size) gF).trans (HB1.out.cell (p := ⟨g, o, none⟩) lg)).trans (cb o)
  have hogn : og ≠ some g := fun e => by have := HO1.out g e; omega
  have lg2 : g < w2.heap.size := Nat.lt_of_lt_of_le (Nat.lt_of_lt_of_le lg HB1.out.size) k1.size
  have BL := Lib.hid (show 0 < ys.length → ∀ d, q = some d → d.block < w0.heap.size from fun h0 => bytes_lt HY.out h0)
  generalize hlen : ys.length = len at *
  clear t1 k1 s1
  go_wp2_with fail
  go_loopg [37] len (fun gh i wx => ∃ j : Nat, j ≤ len ∧ i = .int .i64 j ∧ gh = len - j ∧ Hid (Keep (fun k => og = some k) w2 wx ∧ ∀ g', og = some g' → Bytes8 wx g' len))
  case atStart => exact ⟨0, by omega, rfl, rfl, Keep.refl _ _, by rw [← hlen]; exact Bytes8.of_row (by rw [hlen]; exact R2.out)⟩
  case round =>
    obtain ⟨j, hj, rfl, rfl, J⟩ := hrel
    by_cases hlt : j < len
    · obtain ⟨g', rfl, rfl⟩ := HS (by omega)
      obtain ⟨cur, hbk, hcs⟩ := J.out.2 g' rfl
      obtain ⟨x, hx⟩ := hcs j hlt
      have cc := (hbk.cell j).trans hx
      have ff := hbk.free j
      clear hbk hcs
      go_wp2
      go_roundg (len - (j + 1))
      case measure => omega
      case rel => exact ⟨j + 1, by omega, by go_num, rfl, J.out.1.set (.inl rfl) _, fun g'' e => by cases e; exact (J.out.2 g' rfl).set j _⟩
    · obtain rfl : j = len := by omega
      have T3 := Lib.hid (T2.out.keep J.out.1 (fun k hk e => by
        rcases S1.out k hk with h | h
        · exact hogF k h e
        · have := R1.out.lt k e; omega))
      have cb3 : ∀ o, wr.cell? ⟨g, o, none⟩ = (#[.int .i64 op, .int .i64 n, .slice q ys.length c] : Array Value)[o]? := fun o => ((J.out.1.cell (p := ⟨g, o, none⟩) lg2 hogn).trans (by rw [cb2 o, hlen]))
      have HYF := Lib.hid (bytes_keep (bytes_keep (bytes_keep (X := fun _ => False) HY.out (Keep.of_below HB1.out) (fun _ _ _ h => h)) K1.out (fun h0 d hd => HQ.out h0 d hd)) J.out.1 (fun h0 d hd e => by
        have := HO1.out _ e
        have := BL.out h0 d hd
        omega))
      have P3 := Lib.hid (q_append (ys := ys) q c T3.out HA.out (by rw [hlen]; exact HYF.out) (by omega) (fun h0 d hd hf => by
        rw [hlen] at h0
        rcases S1.out _ hf with h | h
        · exact HQ.out h0 d hd h
        · have := BL.out h0 d hd
          have := HB1.out.size
          omega))
      rw [hlen] at P3 cb3
      have JK := Lib.hid J.out.1
      clear J cb cb2
      go_wp2_with fail
      refine P3.out.mono ?_
      rintro e w4 ⟨rfl, hl2⟩
      have HL := Lib.hid hl2
      clear hl2
      go_wp2
      go_ret
      have K12 : Keep F w0 wr := ((Keep.of_below HB1.out).trans K1.out).trans' JK.out (fun k e => .inr (HO1.out k e))
      exact ⟨by simp, _, ok_append HA.out, Left.trans K0.out (fun k e => .inl e) (Left.trans K12 (fun k e => (S1.out k e).imp id (fun h => Nat.le_trans HB1.out.size h)) HL.out)⟩
set_option maxHeartbeats 1600000 in
theorem does_app3 {F : Nat → Prop} {p r : Nat} {a : TS} (op n : Int) (q : Option Addr) (c : Nat) (ys : List Int) (w : World) (e1 : wrap64 ((IntKind.u64.wrap op).tmod 9) = 3) (hn : n ≤ 9223372036854775807) (h : Two F w p r a a) (ha : a.ok)
    (hy : Lib.BytesIn w q ys.length ys) (hyl : ys.length ≤ 140737488355328) (hq : 0 < ys.length → ∀ d, q = some d → ¬ F d.block) :
    Calls Try.prog 23 #[.pointer (some ⟨p, 0, none⟩), .pointer (some ⟨r, 0, none⟩), .agg #[.int .i64 op, .int .i64 n, .slice q ys.length c]] w fun e w' => e = .returned (.bool true) ∧ ∃ a', TS.ok a' ∧ Left F w w' p r a' a' := by
  have H0 := Lib.hid (h.keep (X := fun _ => False) ((Keep.refl _ w).alloc (.cells #[.int .i64 op, .int .i64 n, .slice q ys.length c] 40)) (fun _ _ h => h))
  have B0 := Lib.hid (Blk.new w #[.int .i64 op, .int .i64 n, .slice q ys.length c] 40)
  have K0 := Lib.hid ((Keep.refl F w).alloc (.cells #[.int .i64 op, .int .i64 n, .slice q ys.length c] 40))
  have gF : ¬ F w.heap.size := fun h' => Nat.lt_irrefl _ (h.lt _ h')
  have HY := Lib.hid (bytes_keep (X := fun _ => False) hy ((Keep.refl _ w).alloc (.cells #[.int .i64 op, .int .i64 n, .slice q ys.length c] 40)) (fun _ _ _ h => h))
  have HQ := Lib.hid hq
  have HA := Lib.hid ha
  have hsub : ∀ k, F k → F k ∨ w.heap.size ≤ k := fun k h => .inl h
  go_enter Try.func23, Try.ntmps23
  go_upto_region 1 with fail
  generalize w.alloc (.cells #[.int .i64 op, .int .i64 n, .slice q ys.length c] 40) = w0 at *
  generalize hg : w.heap.size = g at *
  have lg := B0.out.lt
  have cb := B0.out.cell
  clear h ha hy hq
  go_upto_region 4 with fail
  rw [e1]
  clear e1
  have P1 := Lib.hid (clone_arg q c ys w0 HY.out hyl)
  go_wp2_with fail
  refine P1.out.mono ?_
  rintro e w1 ⟨q1, c1, og, rfl, r1, ho1, hb1⟩
  have T1 := Lib.hid (H0.out.more hb1)
  have HB1 := Lib.hid hb1
  have R1 := Lib.hid r1
  have HO1 := Lib.hid ho1
  have hogF : ∀ k, F k → ¬ og = some k := fun k hk e => by have := ho1 k e; have := H0.out.lt k hk; omega
  obtain ⟨q1', c1', he1, hin1, _⟩ := r1.form
  simp at he1
  obtain ⟨rfl, rfl⟩ := he1
  have P2 := Lib.hid (p_append (ys := ys) q1 c1 T1.out HA.out hin1 (by omega) (fun h0 d hd hf => by
    rcases R1.out with ⟨h, h', _⟩ | ⟨g', cap, cur, h, h', _⟩
    · subst h'; simp at h0
    · simp at h'; rw [h'.1] at hd; cases hd; exact hogF _ hf h))
  clear r1 ho1 hb1 hin1
  go_wp2_with fail
  refine P2.out.mono ?_
  rintro e w2 ⟨rfl, F1, t1, k1, s1⟩
  have R2 := Lib.hid (R1.out.keep k1 (fun g' hg' hf => hogF _ hf hg'))
  have T2 := Lib.hid t1
  have K1 := Lib.hid k1
  have S1 := Lib.hid s1
  have HS : 0 < ys.length → ∃ g', og = some g' ∧ q1 = some ⟨g', 0, none⟩ := fun h0 => by
    rcases R1.out with ⟨h, h', _⟩ | ⟨g', cap, cur, h, h', _⟩
    · subst h'; simp at h0
    · simp at h'; exact ⟨g', h, h'.1⟩
  have cb2 : ∀ o, w2.cell? ⟨g, o, none⟩ = (#[.int .i64 op, .int .i64 n, .slice q ys.length c] : Array Value)[o]? := fun o => ((k1.cell (p := ⟨g, o, none⟩) (Nat.lt_of_lt_of_le lg HB1.out.size) gF).trans (HB1.out.cell (p := ⟨g, o, none⟩) lg)).trans (cb o)
  have hogn : og ≠ some g := fun e => by have := HO1.out g e; omega
  have lg2 : g < w2.heap.size := Nat.lt_of_lt_of_le (Nat.lt_of_lt_of_le lg HB1.out.size) k1.size
  have BL := Lib.hid (show 0 < ys.length → ∀ d, q = some d → d.block < w0.heap.size from fun h0 => bytes_lt HY.out h0)
  generalize hlen : ys.length = len at *
  clear t1 k1 s1
  go_wp2_with fail
  go_loopg [37] len (fun gh i wx => ∃ j : Nat, j ≤ len ∧ i = .int .i64 j ∧ gh = len - j ∧ Hid (Keep (fun k => og = some k) w2 wx ∧ ∀ g', og = some g' → Bytes8 wx g' len))
  case atStart => exact ⟨0, by omega, rfl, rfl, Keep.refl _ _, by rw [← hlen]; exact Bytes8.of_row (by rw [hlen]; exact R2.out)⟩
  case round =>
    obtain ⟨j, hj, rfl, rfl, J⟩ := hrel
    by_cases hlt : j < len
    · obtain ⟨g', rfl, rfl⟩ := HS (by omega)
      obtain ⟨cur, hbk, hcs⟩ := J.out.2 g' rfl
      obtain ⟨x, hx⟩ := hcs j hlt
      have cc := (hbk.cell j).trans hx
      have ff := hbk.free j
      clear hbk hcs
      go_wp2
      go_roundg (len - (j + 1))
      case measure => omega
      case rel => exact ⟨j + 1, by omega, by go_num, rfl, J.out.1.set (.inl rfl) _, fun g'' e => by cases e; exact (J.out.2 g' rfl).set j _⟩
    · obtain rfl : j = len := by omega
      have T3 := Lib.hid (T2.out.keep J.out.1 (fun k hk e => by
        rcases S1.out k hk with h | h
        · exact hogF k h e
        · have := R1.out.lt k e; omega))
      have cb3 : ∀ o, wr.cell? ⟨g, o, none⟩ = (#[.int .i64 op, .int .i64 n, .slice q ys.length c] : Array Value)[o]? := fun o => ((J.out.1.cell (p := ⟨g, o, none⟩) lg2 hogn).trans (by rw [cb2 o, hlen]))
      have HYF := Lib.hid (bytes_keep (bytes_keep (bytes_keep (X := fun _ => False) HY.out (Keep.of_below HB1.out) (fun _ _ _ h => h)) K1.out (fun h0 d hd => HQ.out h0 d hd)) J.out.1 (fun h0 d hd e => by
        have := HO1.out _ e
        have := BL.out h0 d hd
        omega))
      have P3 := Lib.hid (q_append (ys := ys) q c T3.out HA.out (by rw [hlen]; exact HYF.out) (by omega) (fun h0 d hd hf => by
        rw [hlen] at h0
        rcases S1.out _ hf with h | h
        · exact HQ.out h0 d hd h
        · have := BL.out h0 d hd
          have := HB1.out.size
          omega))
      rw [hlen] at P3 cb3
      have JK := Lib.hid J.out.1
      clear J cb cb2
      go_wp2_with fail
      refine P3.out.mono ?_
      rintro e w4 ⟨rfl, hl2⟩
      have HL := Lib.hid hl2
      clear hl2
      go_wp2
      go_ret
      have K12 : Keep F w0 wr := ((Keep.of_below HB1.out).trans K1.out).trans' JK.out (fun k e => .inr (HO1.out k e))
      exact ⟨by simp, _, ok_append HA.out, Left.trans K0.out (fun k e => .inl e) (Left.trans K12 (fun k e => (S1.out k e).imp id (fun h => Nat.le_trans HB1.out.size h)) HL.out)⟩
end Go.Proofs.Ytfeljjbelnlojaa
