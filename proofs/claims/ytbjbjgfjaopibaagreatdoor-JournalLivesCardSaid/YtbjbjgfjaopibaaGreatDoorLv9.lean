import Derived.Test.YtbjbjgfjaopibaaGreatDoorLv8
import Derived.Test.YtbjbjgfjaopibaaGreatDoorLv4
import Derived.Test.YtbjbjgfjaopibaaGreatDoorLv5
import Derived.Deep.LoopGhost
import Derived.Lib.ConvBytes
import Derived.Laws.BytesArg
section
/- A batch that came in. -/
namespace Go.Proofs.YtbjbjgfjaopibaaGreatDoor
open Go Go.ChangeShapes Go.WideShapes Go.ChangeAt Go.RowKit
set_option linter.unusedVariables false
set_option maxRecDepth 100000

/-- the bound on what came in -/
abbrev MB : Nat := 140737488351232
/-- a key's string, its bytes -/
def bsK (s : ByteArray) : Key := s.data.toList
def sK (k : Key) : ByteArray := ⟨k.toArray⟩
theorem sK_bsK (s : ByteArray) : sK (bsK s) = s := rfl
theorem bsK_sK (k : Key) : bsK (sK k) = k := rfl
theorem bsK_len (s : ByteArray) : (bsK s).length = s.size := by unfold bsK; rw [Array.length_toList]; rfl
structure PairD where
  key : ByteArray
  val : RwD
def pairCs (x : PairD) : List Value := [.string x.key, x.val.cell]
def PairOk (w : World) (x : PairD) : Prop := x.key.size ≤ MB ∧ RwOk MB w x.val
def strCs (s : ByteArray) : List Value := [.string s]
def StrOk (w : World) (s : ByteArray) : Prop := s.size ≤ MB
structure BatchD where
  puts : SlD PairD
  dels : SlD ByteArray
def batCs (x : BatchD) : List Value := [x.puts.cell, x.dels.cell]
def BatOk (w : World) (x : BatchD) : Prop := SlOk MB 2 pairCs PairOk w x.puts ∧ SlOk MB 1 strCs StrOk w x.dels
section
variable {w w' : World} {f : Nat} {c : List Value}
theorem PairOk.below {x : PairD} (hb : Below w.heap.size w w') (h : PairOk w x) : PairOk w' x := ⟨h.1, h.2.below hb⟩
theorem BatOk.below {x : BatchD} (hb : Below w.heap.size w w') (h : BatOk w x) : BatOk w' x := ⟨h.1.below hb (fun _ h => PairOk.below hb h), h.2.below hb (fun _ h => h)⟩
theorem ok_pair (h : Ok Tryz.prog w MB (f + 3) 58 c) : ∃ x, c = pairCs x ∧ PairOk w x := by
  obtain ⟨hl, hf⟩ := h.struct Tryz.underlying58
  rw [show Tryz.prog.cellsOf 58 = 2 from by kernel_rfl] at hl
  obtain ⟨c0, c1, rfl⟩ : ∃ c0 c1, c = [c0, c1] := by
    match c, hl with
    | [c0, c1], _ => exact ⟨c0, c1, rfl⟩
  have k0 : Tryz.prog.cellsOf 9 = 1 := by kernel_rfl
  have k1 : Tryz.prog.cellsOf 22 = 1 := by kernel_rfl
  have g0 : Ok Tryz.prog w MB (f + 2) 9 [c0] := by have := hf 0 _ rfl; simpa [k0] using this
  have g1 : Ok Tryz.prog w MB (f + 2) 22 [c1] := by have := hf 1 _ rfl; simpa [k1] using this
  obtain ⟨s, e0, hs⟩ := g0.string Tryz.underlying9
  obtain ⟨r, e1, hr⟩ := Ok.row (f := f) (Nat.le_refl _) g1
  cases e0; cases e1
  exact ⟨⟨s, r⟩, rfl, hs, hr⟩
theorem ok_batch (h : Ok Tryz.prog w MB (f + 5) 41 c) : ∃ x, c = batCs x ∧ BatOk w x := by
  obtain ⟨hl, hf⟩ := h.struct Tryz.underlying41
  rw [show Tryz.prog.cellsOf 41 = 2 from by kernel_rfl] at hl
  obtain ⟨c0, c1, rfl⟩ : ∃ c0 c1, c = [c0, c1] := by
    match c, hl with
    | [c0, c1], _ => exact ⟨c0, c1, rfl⟩
  have k0 : Tryz.prog.cellsOf 38 = 1 := by kernel_rfl
  have k1 : Tryz.prog.cellsOf 39 = 1 := by kernel_rfl
  have g0 : Ok Tryz.prog w MB (f + 4) 38 [c0] := by have := hf 0 _ rfl; simpa [k0] using this
  have g1 : Ok Tryz.prog w MB (f + 4) 39 [c1] := by have := hf 1 _ rfl; simpa [k1] using this
  obtain ⟨sp, e0, hp⟩ := Ok.sl (f := f + 3) (Nat.le_refl _) Tryz.underlying38 (by kernel_rfl) g0 (⟨⟨#[]⟩, ⟨none, 0, []⟩⟩ : PairD) (fun c' hc => ok_pair hc)
  obtain ⟨sd, e1, hd⟩ := Ok.sl (f := f + 3) (k := 1) (cs := strCs) (ok := StrOk) (Nat.le_refl _) Tryz.underlying39 (by kernel_rfl) g1 (⟨#[]⟩ : ByteArray) (fun c' hc => by
    obtain ⟨s, e, hs⟩ := hc.string Tryz.underlying9
    exact ⟨s, e, hs⟩)
  cases e0; cases e1
  exact ⟨⟨sp, sd⟩, rfl, hp, hd⟩
end
/-- what a batch says -/
def batX (x : BatchD) : BatD := ⟨(List.range x.puts.n).map fun i => (bsK (x.puts.x i).key, (x.puts.x i).val.z), (List.range x.dels.n).map fun i => bsK (x.dels.x i)⟩
end Go.Proofs.YtbjbjgfjaopibaaGreatDoor
end

section
/- A batch's bytes, written. -/
namespace Go.Proofs.YtbjbjgfjaopibaaGreatDoor
open Go Go.RowKit
set_option linter.unusedSimpArgs false
set_option linter.unusedVariables false
set_option maxRecDepth 100000

/-- texts that lie somewhere -/
def TxtsIn (w : World) (b0 : Option Addr) (n : Nat) (A : Nat → Option Addr) (C : Nat → Nat) (Z : Nat → List Int) : Prop :=
  ∀ r, r < n → ∃ b o, b0 = some ⟨b, o, none⟩ ∧ w.cell? ⟨b, o + r, none⟩ = some (.slice (A r) (Z r).length (C r)) ∧ Lib.BytesIn w (A r) (Z r).length (Z r)
theorem pfine (s : ByteArray) (w : World) (hs : s.size ≤ MB) : Calls Tryz.prog 65 #[.string s] w fun e w' => e = .returned (.bool (fineK (bsK s))) ∧ w = w' := by
  have hl : s.toList.length = s.size := by rw [ByteArray.toList_eq, Array.length_toList]; rfl
  rcases Nat.eq_zero_or_pos s.size with h0 | h0
  · have hf : fineK (bsK s) = false := by unfold fineK; rw [bsK_len, h0]; rfl
    have e1 : s.toList = [] := List.eq_nil_of_length_eq_zero (by omega)
    have e2 : s.toList.isEmpty = true := by rw [e1]; rfl
    rw [hf]
    clear hl hf e1 h0
    go_enter Tryz.func65, Tryz.ntmps65
    go_wp2
    go_ret
    exact ⟨rfl, rfl⟩
  · have e2 : s.toList.isEmpty = false := by
      rw [List.isEmpty_eq_false_iff]; intro h; rw [h] at hl; simp at hl; omega
    by_cases h1 : s.size ≤ 100
    · have hf : fineK (bsK s) = true := by unfold fineK; rw [bsK_len, decide_eq_true h0, decide_eq_true h1]; rfl
      have h2 : (s.size : Int) ≤ 100 := by omega
      rw [hf]
      clear hl hf h0 h1
      go_enter Tryz.func65, Tryz.ntmps65
      go_wp2
      go_ret
      exact ⟨rfl, rfl⟩
    · have hf : fineK (bsK s) = false := by unfold fineK; rw [bsK_len, decide_eq_false h1, Bool.and_false]
      have h2 : decide ((s.size : Int) ≤ 100) = false := decide_eq_false (by omega)
      rw [hf]
      clear hl hf h0 h1
      go_enter Tryz.func65, Tryz.ntmps65
      go_wp2
      go_ret
      exact ⟨rfl, rfl⟩
set_option maxHeartbeats 3200000 in
/-- texts put behind a row, out of rows that lie elsewhere -/
theorem ptexts (b0 : Option Addr) (n c0 : Nat) (A : Nat → Option Addr) (C : Nat → Nat) (Z : Nat → List Int) (v : Value) (xs : List Int) (o : Option Nat) (w : World) (hR : TxtsIn w b0 n A C Z) (hn : n ≤ 2) (hv : Row w 5 v xs o) (hx : xs.length ≤ 100000000) (hz : ∀ i, i < n → (Z i).length ≤ 60000)
    (ho : ∀ q, b0 = some q → o ≠ some q.block) (hoa : ∀ i, i < n → ∀ q, A i = some q → 0 < (Z i).length → o ≠ some q.block) :
    Calls Tryz.prog 66 #[v, .slice b0 n c0] w fun e w' => ∃ p c o', e = .returned (.slice p (xs ++ ((List.range n).map Z).flatMap txtB).length c) ∧ Row w' 5 (.slice p (xs ++ ((List.range n).map Z).flatMap txtB).length c) (xs ++ ((List.range n).map Z).flatMap txtB) o' ∧ (o' = o ∨ ∃ g, o' = some g ∧ w.heap.size ≤ g) ∧ Keep (fun k => o = some k) w w' := by
  obtain ⟨i0, hi, hz0, hz1, hz2⟩ := info_parts u8inf
  have HI := Lib.hid (And.intro hi (And.intro hz0 (And.intro hz1 hz2)))
  have HR := Lib.hid (And.intro hR (And.intro hz (And.intro ho hoa)))
  have HV := Lib.hid hv
  clear hi hz0 hz1 hz2 hR hz ho hoa
  obtain ⟨p0, cc0, rfl, _⟩ := hv.form
  clear hv
  have hlen : ∀ k, k ≤ n → (((List.range k).map Z).flatMap txtB).length ≤ k * 60009 := fun k => by
    induction k with
    | zero => intro _; simp
    | succ k ih =>
      intro hk
      have h1 := ih (by omega)
      have h2 := (txtB_len (Z k)).2
      have h3 := HR.out.2.1 k (by omega)
      rw [List.range_succ, List.map_append, List.flatMap_append, List.length_append]
      simp only [List.map_cons, List.map_nil, List.flatMap_cons, List.flatMap_nil, List.append_nil]
      omega
  have HL := Lib.hid hlen
  clear hlen
  go_enter Tryz.func66, Tryz.ntmps66
  go_wp2
  go_loopg [0, 9] n (fun gh vv i wx => ∃ (k : Nat) (o' : Option Nat), k ≤ n ∧ i = .int .i64 (k : Int) ∧ gh = n - k ∧ Hid (Row wx 5 vv (xs ++ ((List.range k).map Z).flatMap txtB) o' ∧ (o' = o ∨ ∃ g, o' = some g ∧ w.heap.size ≤ g) ∧ Keep (fun k => o = some k) w wx))
  case atStart => exact ⟨0, o, Nat.zero_le _, rfl, rfl, by simpa using HV.out, .inl rfl, Keep.refl _ _⟩
  case round =>
    obtain ⟨k, o', hk, rfl, hg, HK⟩ := hrel
    have HG := Lib.hid hg
    clear hg
    obtain ⟨pk, ck, rfl, _⟩ := HK.out.1.form
    have HLk := HL.out k hk
    obtain ⟨xk, hxk⟩ : ∃ xk, xk = xs ++ ((List.range k).map Z).flatMap txtB := ⟨_, rfl⟩
    have hxl : xk.length ≤ 100000000 + k * 60009 := by rw [hxk, List.length_append]; omega
    rw [← hxk] at HK ⊢
    have HXK := Lib.hid hxk
    clear hxk HLk
    by_cases hlt : k < n
    · obtain ⟨b, off, rfl, hc, hrow⟩ := HR.out.1 k hlt
      have hb0 := HR.out.2.2.1 _ rfl
      have hcw : wr.cell? ⟨b, off + k, none⟩ = some (.slice (A k) (Z k).length (C k)) := by
        rw [HK.out.2.2.cell (p := ⟨b, off + k, none⟩) (cell_lt hc) (fun e => hb0 e)]; exact hc
      have hzk := HR.out.2.1 k hlt
      have hrw : Lib.BytesIn wr (A k) (Z k).length (Z k) := bytes_keep hrow HK.out.2.2 (fun h0 q hq => HR.out.2.2.2 k hlt q hq h0)
      have PT := Lib.hid (ptext (Z k) (A k) (C k) wr hrw (by omega))
      have htl := (txtB_len (Z k)).2
      clear hc hb0 hrow hrw
      obtain ⟨z, hzz⟩ : ∃ z, z = (Z k).length := ⟨_, rfl⟩
      rw [← hzz] at hcw PT hzk htl
      have HZ := Lib.hid hzz
      clear hzz
      generalize hxn : xk.length = xn at *
      have HXN := Lib.hid hxn
      clear hxn
      go_wp2_with fail
      refine PT.out.mono ?_
      rintro e w2 ⟨p2, c2, o2, rfl, R2, ho2, hb2⟩
      obtain ⟨_, _, e2, hy2, _⟩ := R2.form
      cases e2
      have rv := HK.out.1.keep (X := fun _ => False) (Keep.of_below hb2) (fun _ _ h => h)
      obtain ⟨v3, w3, o3, run3, R3, ho3, k3⟩ := row_appendL (P := Tryz.prog) 22 22 i0 (.int .u8 0) Tryz.underlying22 HI.out.1 HI.out.2.1 HI.out.2.2.1 HI.out.2.2.2 rfl rv (p := p2) (c := c2) (ys := txtB (Z k)) hy2 (by rw [HXN.out]; omega)
      have e3 : xk ++ txtB (Z k) = xs ++ ((List.range (k + 1)).map Z).flatMap txtB := by
        rw [HXK.out, List.range_succ, List.map_append, List.flatMap_append, List.append_assoc]; simp
      have ho' : o3 = o ∨ ∃ g, o3 = some g ∧ w.heap.size ≤ g := by
        rcases ho3 with h | ⟨g, h, hg⟩
        · rw [h]; exact HK.out.2.1
        · exact .inr ⟨g, h, by have := HK.out.2.2.size; have := hb2.size; omega⟩
      have k4 : Keep (fun k => o = some k) w w3 := (HK.out.2.2.trans (Keep.of_below hb2)).trans' k3 (fun j hj => by
        rcases HK.out.2.1 with h | ⟨g, h, hg⟩
        · exact .inl (by rw [← h]; exact hj)
        · rw [h] at hj; cases hj; exact .inr hg)
      rw [e3] at R3
      have H3 := Lib.hid (And.intro R3 (And.intro ho' k4))
      clear R2 ho2 hb2 hy2 rv R3 ho3 k3 e3 ho' k4 hcw
      generalize (txtB (Z k)).length = tn at *
      go_wp2_with (at_builtin; refine wpl_append rfl _ _ 22 rfl rfl rfl run3 ?_)
      go_roundg (n - (k + 1))
      case measure => rw [HG.out]; omega
      case rel => exact ⟨k + 1, o3, hlt, rfl, rfl, H3.out.1, H3.out.2⟩
    · obtain rfl : k = n := by omega
      go_wp2
      go_ret
      rw [HXK.out] at HK ⊢
      exact ⟨_, _, o', rfl, HK.out.1, HK.out.2⟩
end Go.Proofs.YtbjbjgfjaopibaaGreatDoor
end

section
/- journal.write, walked. -/
namespace Go.Proofs.YtbjbjgfjaopibaaGreatDoor
open Go Go.RowKit
set_option linter.unusedSimpArgs false
set_option linter.unusedVariables false
set_option maxRecDepth 100000

theorem two_bytes (s : ByteArray) : kb (bsK s) = s.data.toList.map fun c => ((c.toNat : Nat) : Int) := rfl
/-- a string's bytes, in a row of its own -/
theorem conv_bytes (w : World) (s : ByteArray) : ∃ cap w', (convert 9 22 (.string s)).run Tryz.prog w = .ok (.slice (some ⟨w.heap.size, 0, none⟩) s.size cap) w' ∧ Below w.heap.size w w' ∧ Lib.BytesIn w' (some ⟨w.heap.size, 0, none⟩) (kb (bsK s)).length (kb (bsK s)) ∧ w'.heap.size = w.heap.size + 1 := by
  refine ⟨_, _, Lib.run_convert_string_bytes w _ _ _ s Tryz.underlying9 Tryz.underlying22 Tryz.underlying5, ⟨rfl, rfl, rfl, by rw [Lib.bytesWorld_size]; omega, fun k hk => Lib.bytesWorld_at_old w _ s k hk⟩, fun h0 => ⟨w.heap.size, 0, rfl, fun i hi => ?_⟩, Lib.bytesWorld_size _ _ _⟩
  rw [kb_len, bsK_len] at hi
  rw [Nat.zero_add, Lib.bytesWorld_cell w _ s i hi]
  have hd : i < s.data.size := hi
  simp [kb, bsK, List.getD_eq_getElem?_getD, Array.getElem?_eq_getElem hd]
def putX (X : BatchD) (i : Nat) : Key × List Int := (bsK (X.puts.x i).key, (X.puts.x i).val.z)
def delX (X : BatchD) (i : Nat) : Key := bsK (X.dels.x i)
/-- what is written behind k puts; behind all of them and k deletes -/
def wr1 (X : BatchD) (k : Nat) : List Int := encS X.puts.n ++ ((List.range k).map (putX X)).flatMap putB
def wr2 (X : BatchD) (k : Nat) : List Int := wr1 X X.puts.n ++ (encS X.dels.n ++ ((List.range k).map (delX X)).flatMap delB)
theorem wr2_all (X : BatchD) : wr2 X X.dels.n = batB (batX X) := by
  unfold wr2 wr1 batB batX
  simp only [List.length_map, List.length_range, List.append_assoc]
  rfl
theorem wr1_succ (X : BatchD) (k : Nat) : wr1 X (k + 1) = wr1 X k ++ putB (putX X k) := by
  unfold wr1; rw [List.range_succ, List.map_append, List.flatMap_append, List.append_assoc]; simp
theorem wr2_succ (X : BatchD) (k : Nat) : wr2 X (k + 1) = wr2 X k ++ delB (delX X k) := by
  unfold wr2; rw [List.range_succ, List.map_append, List.flatMap_append]; simp
theorem wr2_0 (X : BatchD) : wr2 X 0 = wr1 X X.puts.n ++ encS X.dels.n := by unfold wr2; simp
theorem wr1_mono (X : BatchD) {j k : Nat} (h : j ≤ k) : (wr1 X j).length ≤ (wr1 X k).length := by
  induction k with
  | zero => rw [show j = 0 from by omega]; exact Nat.le_refl _
  | succ k ih =>
    rcases Nat.lt_or_ge j (k + 1) with h1 | h1
    · rw [wr1_succ, List.length_append]; have := ih (by omega); omega
    · rw [show j = k + 1 from by omega]; exact Nat.le_refl _
theorem wr_len (X : BatchD) {k : Nat} (hk : k ≤ X.puts.n) : (wr1 X k).length ≤ (batB (batX X)).length := by
  rw [← wr2_all]
  have := wr1_mono X hk
  unfold wr2; rw [List.length_append]; omega
theorem not_put {X : BatchD} {k : Nat} (hk : k < X.puts.n) (h : finePut (putX X k) = false) : ¬ CanB (batX X) := fun hc => by
  have := hc.fineP (putX X k) (List.mem_map.2 ⟨k, List.mem_range.2 hk, rfl⟩)
  rw [h] at this; cases this
theorem not_del {X : BatchD} {k : Nat} (hk : k < X.dels.n) (h : fineK (delX X k) = false) : ¬ CanB (batX X) := fun hc => by
  have := hc.fineD (delX X k) (List.mem_map.2 ⟨k, List.mem_range.2 hk, rfl⟩)
  rw [h] at this; cases this
theorem not_len {X : BatchD} {k : Nat} (hk : k ≤ X.puts.n) (h : 1048576 < (wr1 X k).length) : ¬ CanB (batX X) := fun hc => by
  have := hc.len; have := wr_len X hk; omega
theorem can_of {X : BatchD} (h1 : X.puts.n ≤ 20000) (h2 : X.dels.n ≤ 20000) (h3 : ∀ i, i < X.puts.n → finePut (putX X i) = true) (h4 : ∀ i, i < X.dels.n → fineK (delX X i) = true) (h5 : (wr2 X X.dels.n).length ≤ 1048576) : CanB (batX X) :=
  ⟨by simpa [batX] using h1, by simpa [batX] using h2, fun p hp => by
    obtain ⟨i, hi, rfl⟩ := List.mem_map.1 hp
    exact h3 i (List.mem_range.1 hi), fun k hk => by
    obtain ⟨i, hi, rfl⟩ := List.mem_map.1 hk
    exact h4 i (List.mem_range.1 hi), by rw [← wr2_all]; exact h5⟩
/-- what 'write' answers -/
def WritePost (X : BatchD) (w : World) (e : Ending) (w' : World) : Prop := Below w.heap.size w w' ∧
  ((CanB (batX X) ∧ ∃ p c o, e = .returned (.tuple #[.slice p (batB (batX X)).length c, .bool true]) ∧ Row w' 5 (.slice p (batB (batX X)).length c) (batB (batX X)) o ∧ ∀ g, o = some g → w.heap.size ≤ g) ∨
   (¬ CanB (batX X) ∧ ∃ v, e = .returned (.tuple #[v, .bool false])))
theorem WritePost.no {X : BatchD} {w w' : World} {v : Value} (hb : Below w.heap.size w w') (h : ¬ CanB (batX X)) : WritePost X w (.returned (.tuple #[v, .bool false])) w' := ⟨hb, .inr ⟨h, v, rfl⟩⟩
set_option maxHeartbeats 3200000 in
theorem pwrite_many (X : BatchD) (w : World) (h : 20000 < X.puts.n ∨ 20000 < X.dels.n) (hX : BatOk w X) :
    Calls Tryz.prog 42 #[.agg #[.slice X.puts.a X.puts.n X.puts.c, .slice X.dels.a X.dels.n X.dels.c]] w (WritePost X w) := by
  have hno : ¬ CanB (batX X) := fun hc => by
    have h1 := hc.puts; have h2 := hc.dels
    simp [batX] at h1 h2; omega
  have b1 : X.puts.n ≤ MB := hX.1.2.1.1
  have b2 : X.dels.n ≤ MB := hX.2.2.1.1
  have HNO := Lib.hid hno
  clear hno hX
  obtain ⟨n, hn⟩ : ∃ n, n = X.puts.n := ⟨_, rfl⟩
  obtain ⟨m, hm⟩ : ∃ m, m = X.dels.n := ⟨_, rfl⟩
  rw [← hn, ← hm] at h ⊢
  rw [← hn] at b1
  rw [← hm] at b2
  have HH := Lib.hid (And.intro hn hm)
  clear hn hm
  by_cases h1 : 20000 < n
  · have d1 : (20000 : Int) < (n : Int) := by omega
    clear h
    go_enter Tryz.func42, Tryz.ntmps42
    go_wp2
    exact bodyPost_ret (results_tmp2 Tryz.results42 _ _ _) rfl (WritePost.no ((Below.refl _ _).alloc (Nat.le_refl _) _) HNO.out)
  · have d1 : decide ((20000 : Int) < (n : Int)) = false := decide_eq_false (by omega)
    have d2 : (20000 : Int) < (m : Int) := by omega
    clear h
    go_enter Tryz.func42, Tryz.ntmps42
    go_wp2
    exact bodyPost_ret (results_tmp2 Tryz.results42 _ _ _) rfl (WritePost.no ((Below.refl _ _).alloc (Nat.le_refl _) _) HNO.out)
theorem row_cast {w : World} {e : TypeId} {v : Value} {xs ys : List Int} {o : Option Nat} (h : Row w e v xs o) (he : xs = ys) : Row w e v ys o := he ▸ h
set_option maxHeartbeats 12800000 in
theorem pwrite_few (X : BatchD) (w : World) (h1 : X.puts.n ≤ 20000) (h2 : X.dels.n ≤ 20000) (hX : BatOk w X) :
    Calls Tryz.prog 42 #[.agg #[.slice X.puts.a X.puts.n X.puts.c, .slice X.dels.a X.dels.n X.dels.c]] w (WritePost X w) := by
  obtain ⟨i0, hi, hz0, hz1, hz2⟩ := info_parts u8inf
  have HI := Lib.hid (And.intro hi (And.intro hz0 (And.intro hz1 hz2)))
  clear hi hz0 hz1 hz2
  obtain ⟨n, hn⟩ : ∃ n, n = X.puts.n := ⟨_, rfl⟩
  obtain ⟨m, hm⟩ : ∃ m, m = X.dels.n := ⟨_, rfl⟩
  obtain ⟨pa, hpa⟩ : ∃ pa, pa = X.puts.a := ⟨_, rfl⟩
  obtain ⟨da, hda⟩ : ∃ da, da = X.dels.a := ⟨_, rfl⟩
  rw [← hn] at h1 ⊢
  rw [← hm] at h2 ⊢
  rw [← hpa, ← hda]
  have HN := Lib.hid (And.intro hn (And.intro hm (And.intro hpa hda)))
  clear hn hm hpa hda
  have bn := Blk.new w #[.slice pa n X.puts.c, .slice da m X.dels.c] 41
  have k0 := (Below.refl w.heap.size w).alloc (Nat.le_refl _) (.cells #[.slice pa n X.puts.c, .slice da m X.dels.c] 41)
  have HX := Lib.hid (hX.below k0)
  clear hX
  generalize X.puts.c = pc at *
  generalize X.dels.c = dc at *
  have d1 : decide ((20000 : Int) < (n : Int)) = false := decide_eq_false (by omega)
  have d2 : decide ((20000 : Int) < (m : Int)) = false := decide_eq_false (by omega)
  go_enter Tryz.func42, Tryz.ntmps42
  go_upto_region 1 with fail
  generalize w.alloc (.cells #[.slice pa n pc, .slice da m dc] 41) = W at *
  generalize hgw : w.heap.size = g at *
  have c0 : W.cell? ⟨g, 0, none⟩ = some (.slice pa n pc) := bn.cell 0
  have c1 : W.cell? ⟨g, 1, none⟩ = some (.slice da m dc) := bn.cell 1
  have PE := Lib.hid (penc n (by omega) W)
  have HB := Lib.hid (And.intro bn (And.intro k0 hgw))
  clear k0 bn hgw
  go_wp2_with fail
  refine PE.out.mono ?_
  rintro e w1 ⟨p1, cc1, o1, rfl, R1, ho1, hb1⟩
  clear c0 c1
  have c0 : w1.cell? ⟨g, 0, none⟩ = some (.slice pa n pc) := (HB.out.1.beyond hb1).cell 0
  have R1' : Row w1 5 (.slice p1 (encS n).length cc1) (wr1 X 0) o1 := row_cast R1 (by unfold wr1; rw [← HN.out.1]; simp)
  have H1 := Lib.hid (And.intro R1' (And.intro ho1 hb1))
  have hel := (encS_ne n).2
  clear R1 R1' ho1 hb1 d1 d2
  generalize (encS n).length = en at *
  go_wp2
  go_loopg [4, 27] n (fun gh v i wx => ∃ (k : Nat) (o : Option Nat), k ≤ n ∧ i = .int .i64 (k : Int) ∧ gh = n - k ∧ Hid (Row wx 5 v (wr1 X k) o ∧ (∀ g, o = some g → W.heap.size ≤ g) ∧ Below W.heap.size W wx ∧ (∀ i, i < k → finePut (putX X i) = true) ∧ (wr1 X k).length ≤ 1500000))
  case atStart => exact ⟨0, o1, Nat.zero_le _, rfl, rfl, H1.out.1, H1.out.2.1, H1.out.2.2, fun i hi => absurd hi (Nat.not_lt_zero i), by unfold wr1; rw [← HN.out.1]; simp; have := (encS_ne n).2; omega⟩
  case round =>
    obtain ⟨k, o, hk, rfl, hg, HK⟩ := hrel
    have HG := Lib.hid hg
    clear hg c0
    obtain ⟨pk, ck, rfl, _⟩ := HK.out.1.form
    obtain ⟨xk, hxk⟩ : ∃ xk, xk = wr1 X k := ⟨_, rfl⟩
    have hxl : xk.length ≤ 1500000 := by rw [hxk]; exact HK.out.2.2.2.2
    have hkx : k ≤ X.puts.n := by rw [← HN.out.1]; exact hk
    rw [← hxk] at HK ⊢
    have HXK := Lib.hid hxk
    clear hxk
    have hfin : g < wr.heap.size := by have := HB.out.1.lt; have := HK.out.2.2.1.size; omega
    by_cases hlt : k < n
    · have hltx : k < X.puts.n := by rw [← HN.out.1]; exact hlt
      obtain ⟨b, off, hpa, _, hca, hok⟩ := HX.out.1.2.2.2 k hltx
      rw [← HN.out.2.2.1] at hpa
      obtain ⟨xp, hxp⟩ : ∃ xp, xp = X.puts.x k := ⟨_, rfl⟩
      rw [← hxp] at hca hok
      have HXP := Lib.hid hxp
      obtain ⟨key, ⟨va, vc, vz⟩⟩ := xp
      change CellsAt W b (off + k * 2) (pairCs ⟨key, ⟨va, vc, vz⟩⟩) at hca
      subst hpa
      have hcr := hca.below (w' := wr) HK.out.2.2.1
      have t0 : wr.cell? ⟨b, off + k * 2, none⟩ = some (.string key) := hcr 0 (by simp [pairCs])
      have t1 : wr.cell? ⟨b, off + k * 2 + 1, none⟩ = some (.slice va vz.length vc) := hcr 1 (by simp [pairCs])
      have hks : key.size ≤ MB := hok.1
      have hvl : vz.length ≤ MB := hok.2.2
      have HOK := Lib.hid (And.intro hok (hok.2.1.below HK.out.2.2.1))
      have bx := Blk.new wr #[.string key, .slice va vz.length vc] 58
      have kx := (Below.refl wr.heap.size wr).alloc (Nat.le_refl _) (.cells #[.string key, .slice va vz.length vc] 58)
      obtain ⟨z, hz⟩ : ∃ z, z = vz.length := ⟨_, rfl⟩
      rw [← hz] at t1 bx kx hvl
      have HZ := Lib.hid hz
      clear hca hok hcr hxp hz
      go_upto_region 7 with fail
      clear t0 t1
      generalize wr.alloc (.cells #[.string key, .slice va z vc] 58) = w4 at *
      generalize hgx : wr.heap.size = gx at *
      have cx0 : w4.cell? ⟨gx, 0, none⟩ = some (.string key) := bx.cell 0
      have cx1 : w4.cell? ⟨gx, 1, none⟩ = some (.slice va z vc) := bx.cell 1
      have hlx := bx.lt
      have hput : putX X k = (bsK key, vz) := by unfold putX; rw [← HXP.out]
      have kx4 : Below wr.heap.size wr w4 := by rw [hgx]; exact kx
      have kW4 : Below W.heap.size W w4 := HK.out.2.2.1.trans (kx4.mono HK.out.2.2.1.size)
      have kw4 : Below w.heap.size w w4 := by
        rw [HB.out.2.2]
        exact HB.out.2.1.trans (kW4.mono (by have := HB.out.1.lt; omega))
      have PF := pfine key w4 hks
      have HP := Lib.hid (And.intro hput (And.intro kx4 (And.intro kW4 kw4)))
      clear hput kx kx4 kW4 kw4 bx
      by_cases f1 : fineK (bsK key) = true
      · rw [f1] at PF
        have PF := Lib.hid PF
        by_cases f2 : z ≤ 60000
        · have e2 : decide ((60000 : Int) < (z : Int)) = false := decide_eq_false (by omega)
          by_cases f3 : xk.length ≤ 1048576
          · have e3 : decide ((1048576 : Int) < (xk.length : Int)) = false := decide_eq_false (by omega)
            generalize hxn : xk.length = xn at *
            have HXN := Lib.hid hxn
            have HF3 := Lib.hid f3
            clear hxn f3
            go_upto_region 9 with (refine PF.out.mono ?_; rintro e w' ⟨rfl, rfl⟩)
            obtain ⟨cap, w5, hcv, hb5, hy5, hs5⟩ := conv_bytes w4 key
            have hklen : (kb (bsK key)).length = key.size := by rw [kb_len, bsK_len]
            have hk100 : key.size ≤ 100 := by have := (fineK_iff.1 f1).2; rw [bsK_len] at this; exact this
            have b6 := Blk.new w5 #[.slice (some ⟨w4.heap.size, 0, none⟩) key.size cap, .slice va z vc] 22
            have k6 := (Below.refl w5.heap.size w5).alloc (Nat.le_refl _) (.cells #[.slice (some ⟨w4.heap.size, 0, none⟩) key.size cap, .slice va z vc] 22)
            have hkr : Below wr.heap.size wr (w5.alloc (.cells #[.slice (some ⟨w4.heap.size, 0, none⟩) key.size cap, .slice va z vc] 22)) := HP.out.2.1.trans ((hb5.trans (k6.mono hb5.size)).mono HP.out.2.1.size)
            have hs4 := HP.out.2.1.size
            have T : TxtsIn (w5.alloc (.cells #[.slice (some ⟨w4.heap.size, 0, none⟩) key.size cap, .slice va z vc] 22)) (some ⟨w5.heap.size, 0, none⟩) 2 (fun i => if i = 0 then some ⟨w4.heap.size, 0, none⟩ else va) (fun i => if i = 0 then cap else vc) (fun i => if i = 0 then kb (bsK key) else vz) := fun r hr => by
              refine ⟨w5.heap.size, 0, rfl, ?_, ?_⟩
              · rw [Nat.zero_add, b6.cell]
                rcases (by omega : r = 0 ∨ r = 1) with rfl | rfl
                · simp [hklen]
                · simp [HZ.out]
              · rcases (by omega : r = 0 ∨ r = 1) with rfl | rfl
                · exact bytes_keep hy5 (Keep.of_below (X := fun _ => False) k6) (fun _ _ _ h => h)
                · exact bytes_keep HOK.out.2.bytes (Keep.of_below (X := fun _ => False) hkr) (fun _ _ _ h => h)
            have PT := ptexts (some ⟨w5.heap.size, 0, none⟩) 2 2 _ _ _ (.slice pk xn ck) xk o (w5.alloc (.cells #[.slice (some ⟨w4.heap.size, 0, none⟩) key.size cap, .slice va z vc] 22)) T (Nat.le_refl _) (HK.out.1.keep (X := fun _ => False) (Keep.of_below hkr) (fun _ _ h => h)) (by rw [HXN.out]; omega) (fun i hi => by
                rcases (by omega : i = 0 ∨ i = 1) with rfl | rfl
                · show (kb (bsK key)).length ≤ 60000; omega
                · show vz.length ≤ 60000; have := HZ.out; omega)
              (fun q hq e => by cases hq; have hlo := HK.out.1.lt _ e; have := hb5.size; change w5.heap.size < _ at hlo; omega)
              (fun i hi q hq h0 e => by
                have hlo := HK.out.1.lt _ e
                have hge := HK.out.2.1 _ e
                rcases (by omega : i = 0 ∨ i = 1) with rfl | rfl
                · have hq' : (some ⟨w4.heap.size, 0, none⟩ : Option Addr) = some q := hq
                  cases hq'; change w4.heap.size < _ at hlo; omega
                · have hq' : va = some q := hq
                  have h0' : 0 < vz.length := h0
                  have := HOK.out.1.2.1.there q hq' h0'; omega)
            have e7 : xk ++ ((List.range 2).map (fun i => if i = 0 then kb (bsK key) else vz)).flatMap txtB = wr1 X (k + 1) := by
              rw [wr1_succ, HP.out.1, ← HXK.out]; simp [putB, List.range_succ]
            rw [e7] at PT
            have PT := Lib.hid PT
            have HKR := Lib.hid (And.intro hkr (HK.out.2.2.1.trans (hkr.mono HK.out.2.2.1.size)))
            have hwl : (wr1 X (k + 1)).length ≤ 1500000 := by
              rw [wr1_succ, HP.out.1, ← HXK.out, List.length_append, HXN.out]
              unfold putB
              rw [List.length_append]
              have a1 := (txtB_len (kb (bsK key))).2
              have a2 := (txtB_len vz).2
              have := HZ.out
              have := HF3.out
              simp only; omega
            have HWL := Lib.hid hwl
            have cx1' : w5.cell? ⟨gx, 1, none⟩ = some (.slice va z vc) := (hb5.cell (p := ⟨gx, 1, none⟩) hlx).trans cx1
            clear T e7 hy5 b6 k6 hkr hb5 hs5 hwl hklen hk100
            generalize (wr1 X (k + 1)).length = wl at PT
            go_wp2_with fail
            refine PT.out.mono ?_
            rintro e w7 ⟨p7, c7, o7, rfl, R7, ho7, k7⟩
            have hsz6 := HKR.out.2.size
            have H7 := Lib.hid (And.intro R7 (And.intro (show ∀ g, o7 = some g → W.heap.size ≤ g from fun g hg => by
              rcases ho7 with h | ⟨g', h, hg'⟩
              · exact HK.out.2.1 g (by rw [← h]; exact hg)
              · rw [h] at hg; cases hg; omega) (HKR.out.2.trans (k7.below hsz6 (fun k hk => HK.out.2.1 k hk)))))
            clear R7 ho7 k7 hsz6
            go_wp2
            go_roundg (n - (k + 1))
            case measure => rw [HG.out]; omega
            case rel => exact ⟨k + 1, o7, hlt, rfl, rfl, H7.out.1, H7.out.2.1, H7.out.2.2, fun i hi => by
              rcases Nat.lt_or_ge i k with h | h
              · exact HK.out.2.2.2.1 i h
              · obtain rfl : i = k := by omega
                rw [HP.out.1, finePut_iff]
                exact ⟨fineK_iff.1 f1, by have := HZ.out; simp only; omega⟩, HWL.out⟩
          · have e3 : (1048576 : Int) < (xk.length : Int) := by omega
            have hno := not_len hkx (by rw [← HXK.out]; omega)
            have HNO := Lib.hid hno
            clear hno f3
            generalize hxn : xk.length = xn at *
            go_wp2_with (refine PF.out.mono ?_; rintro e w' ⟨rfl, rfl⟩)
            exact bodyPost_ret (results_tmp2 Tryz.results42 _ _ _) rfl (WritePost.no HP.out.2.2.2 HNO.out)
        · have e2 : (60000 : Int) < (z : Int) := by omega
          have hno := not_put hltx (by rw [HP.out.1, ← Bool.not_eq_true, finePut_iff]; rintro ⟨_, h⟩; have := HZ.out; simp only at h; omega)
          have HNO := Lib.hid hno
          clear hno f2
          go_wp2_with (refine PF.out.mono ?_; rintro e w' ⟨rfl, rfl⟩)
          exact bodyPost_ret (results_tmp2 Tryz.results42 _ _ _) rfl (WritePost.no HP.out.2.2.2 HNO.out)
      · have f1' : fineK (bsK key) = false := by simpa using f1
        rw [f1'] at PF
        have PF := Lib.hid PF
        have hno := not_put hltx (by rw [HP.out.1]; unfold finePut; simp only []; rw [f1', Bool.false_and])
        have HNO := Lib.hid hno
        clear hno f1 f1'
        go_wp2_with (refine PF.out.mono ?_; rintro e w' ⟨rfl, rfl⟩)
        exact bodyPost_ret (results_tmp2 Tryz.results42 _ _ _) rfl (WritePost.no HP.out.2.2.2 HNO.out)
    · obtain rfl : k = n := by omega
      have c1 : wr.cell? ⟨g, 1, none⟩ = some (.slice da m dc) := (HB.out.1.beyond HK.out.2.2.1).cell 1
      have PE2 := Lib.hid (penc m (by omega) wr)
      have hem := (encS_ne m).2
      generalize hxn : xk.length = xn at *
      have HXN := Lib.hid hxn
      clear hxn
      go_wp2_with fail
      refine PE2.out.mono ?_
      rintro e w2 ⟨p2, cc2, o2, rfl, R2, ho2, hb2⟩
      obtain ⟨_, _, e2, hy2, _⟩ := R2.form
      cases e2
      obtain ⟨v3, w3, o3, run3, R3, ho3, k3⟩ := row_appendL (P := Tryz.prog) 22 22 i0 (.int .u8 0) Tryz.underlying22 HI.out.1 HI.out.2.1 HI.out.2.2.1 HI.out.2.2.2 rfl (HK.out.1.keep (X := fun _ => False) (Keep.of_below hb2) (fun _ _ h => h)) (p := p2) (c := cc2) (ys := encS m) hy2 (by rw [HXN.out]; omega)
      have e3 : xk ++ encS m = wr2 X 0 := by rw [wr2_0, HXK.out, ← HN.out.1, ← HN.out.2.1]
      rw [e3] at R3
      have hbW2 := HK.out.2.2.1.trans (hb2.mono HK.out.2.2.1.size)
      have hst := own_step (G := W.heap.size) rfl hbW2 HK.out.2.1 ho3 k3
      have hw20 : (wr2 X 0).length ≤ 1600000 := by rw [← e3, List.length_append, HXN.out]; omega
      have H3 := Lib.hid (And.intro R3 (And.intro hst.1 (And.intro hst.2 (And.intro HK.out.2.2.2.1 hw20))))
      have c1' : w3.cell? ⟨g, 1, none⟩ = some (.slice da m dc) := (HB.out.1.beyond hst.2).cell 1
      obtain ⟨p3, cc3, rfl, _⟩ := R3.form
      clear R2 ho2 hb2 hy2 R3 ho3 k3 e3 hbW2 hst hw20 c1
      generalize (encS m).length = em at *
      go_upto_region 12 with (at_builtin; refine wpl_append rfl _ _ 22 rfl rfl rfl run3 ?_)
      clear run3
      go_wp2
      go_loopg [4, 65] m (fun gh v i wx => ∃ (j : Nat) (o : Option Nat), j ≤ m ∧ i = .int .i64 (j : Int) ∧ gh = m - j ∧ Hid (Row wx 5 v (wr2 X j) o ∧ (∀ g, o = some g → W.heap.size ≤ g) ∧ Below W.heap.size W wx ∧ (∀ i, i < j → fineK (delX X i) = true) ∧ (wr2 X j).length ≤ 1600000 + j * 109))
      case atStart => exact ⟨0, o3, Nat.zero_le _, rfl, rfl, H3.out.1, H3.out.2.1, H3.out.2.2.1, fun i hi => absurd hi (Nat.not_lt_zero i), by have := H3.out.2.2.2.2; omega⟩
      case round =>
        obtain ⟨j, oj, hj, rfl, hg, HJ⟩ := hrel
        have HG2 := Lib.hid hg
        clear hg c1'
        obtain ⟨pj, cj, rfl, _⟩ := HJ.out.1.form
        obtain ⟨xj, hxj⟩ : ∃ xj, xj = wr2 X j := ⟨_, rfl⟩
        have hxl2 : xj.length ≤ 1600000 + j * 109 := by rw [hxj]; exact HJ.out.2.2.2.2
        rw [← hxj] at HJ ⊢
        have HXJ := Lib.hid hxj
        clear hxj
        have hkw : Below w.heap.size w wr := by
          rw [HB.out.2.2]
          exact HB.out.2.1.trans (HJ.out.2.2.1.mono (by have := HB.out.1.lt; omega))
        have HKW := Lib.hid hkw
        clear hkw
        by_cases hjl : j < m
        · have hjx : j < X.dels.n := by rw [← HN.out.2.1]; exact hjl
          obtain ⟨b, off, hda, _, hca, hok⟩ := HX.out.2.2.2.2 j hjx
          rw [← HN.out.2.2.2] at hda
          obtain ⟨key, hkey⟩ : ∃ key, key = X.dels.x j := ⟨_, rfl⟩
          rw [← hkey] at hca hok
          have HKEY := Lib.hid hkey
          subst hda
          have t0 : wr.cell? ⟨b, off + j, none⟩ = some (.string key) := by
            have := (hca.below (w' := wr) HJ.out.2.2.1) 0 (by simp [strCs])
            rw [Nat.mul_one] at this; exact this
          have hks : key.size ≤ MB := hok
          have hdel : delX X j = bsK key := by unfold delX; rw [← HKEY.out]
          have HD := Lib.hid hdel
          clear hca hok hkey hdel
          have PF := pfine key wr hks
          by_cases f1 : fineK (bsK key) = true
          · rw [f1] at PF
            have PF := Lib.hid PF
            generalize hxn2 : xj.length = xm at *
            have HXM := Lib.hid hxn2
            clear hxn2
            go_upto_region 17 with (refine PF.out.mono ?_; rintro e w' ⟨rfl, rfl⟩)
            clear t0
            obtain ⟨cap, w5, hcv, hb5, hy5, hs5⟩ := conv_bytes wr key
            have hklen : (kb (bsK key)).length = key.size := by rw [kb_len, bsK_len]
            have hk100 : key.size ≤ 100 := by have := (fineK_iff.1 f1).2; rw [bsK_len] at this; exact this
            have b6 := Blk.new w5 #[.slice (some ⟨wr.heap.size, 0, none⟩) key.size cap] 22
            have k6 := (Below.refl w5.heap.size w5).alloc (Nat.le_refl _) (.cells #[.slice (some ⟨wr.heap.size, 0, none⟩) key.size cap] 22)
            have hkr : Below wr.heap.size wr (w5.alloc (.cells #[.slice (some ⟨wr.heap.size, 0, none⟩) key.size cap] 22)) := hb5.trans (k6.mono hb5.size)
            have T : TxtsIn (w5.alloc (.cells #[.slice (some ⟨wr.heap.size, 0, none⟩) key.size cap] 22)) (some ⟨w5.heap.size, 0, none⟩) 1 (fun _ => some ⟨wr.heap.size, 0, none⟩) (fun _ => cap) (fun _ => kb (bsK key)) := fun r hr => by
              obtain rfl : r = 0 := by omega
              refine ⟨w5.heap.size, 0, rfl, ?_, ?_⟩
              · rw [Nat.zero_add, b6.cell]; simp [hklen]
              · exact bytes_keep hy5 (Keep.of_below (X := fun _ => False) k6) (fun _ _ _ h => h)
            have PT := ptexts (some ⟨w5.heap.size, 0, none⟩) 1 1 _ _ _ (.slice pj xm cj) xj oj (w5.alloc (.cells #[.slice (some ⟨wr.heap.size, 0, none⟩) key.size cap] 22)) T (by decide) (HJ.out.1.keep (X := fun _ => False) (Keep.of_below hkr) (fun _ _ h => h)) (by rw [HXM.out]; omega) (fun i hi => by
                show (kb (bsK key)).length ≤ 60000; omega)
              (fun q hq e => by cases hq; have hlo := HJ.out.1.lt _ e; have := hb5.size; change w5.heap.size < _ at hlo; omega)
              (fun i hi q hq h0 e => by
                have hlo := HJ.out.1.lt _ e
                have hq' : (some ⟨wr.heap.size, 0, none⟩ : Option Addr) = some q := hq
                cases hq'; change wr.heap.size < _ at hlo; omega)
            have e7 : xj ++ ((List.range 1).map (fun _ => kb (bsK key))).flatMap txtB = wr2 X (j + 1) := by
              rw [wr2_succ, HD.out, ← HXJ.out]; simp [delB]
            rw [e7] at PT
            have PT := Lib.hid PT
            have HKR := Lib.hid (HJ.out.2.2.1.trans (hkr.mono HJ.out.2.2.1.size))
            have hwl : (wr2 X (j + 1)).length ≤ 1600000 + (j + 1) * 109 := by
              rw [wr2_succ, HD.out, ← HXJ.out, List.length_append, HXM.out]
              unfold delB
              have a1 := (txtB_len (kb (bsK key))).2
              omega
            have HWL := Lib.hid hwl
            clear T e7 hy5 b6 k6 hkr hb5 hs5 hwl hklen hk100
            generalize (wr2 X (j + 1)).length = wl at PT
            go_wp2_with fail
            refine PT.out.mono ?_
            rintro e w7 ⟨p7, c7, o7, rfl, R7, ho7, k7⟩
            have hsz6 := HKR.out.size
            have H7 := Lib.hid (And.intro R7 (And.intro (show ∀ g, o7 = some g → W.heap.size ≤ g from fun g hg => by
              rcases ho7 with h | ⟨g', h, hg'⟩
              · exact HJ.out.2.1 g (by rw [← h]; exact hg)
              · rw [h] at hg; cases hg; omega) (HKR.out.trans (k7.below hsz6 (fun k hk => HJ.out.2.1 k hk)))))
            clear R7 ho7 k7 hsz6
            go_wp2
            go_roundg (m - (j + 1))
            case measure => rw [HG2.out]; omega
            case rel => exact ⟨j + 1, o7, hjl, rfl, rfl, H7.out.1, H7.out.2.1, H7.out.2.2, fun i hi => by
              rcases Nat.lt_or_ge i j with h | h
              · exact HJ.out.2.2.2.1 i h
              · obtain rfl : i = j := by omega
                rw [HD.out]; exact f1, HWL.out⟩
          · have f1' : fineK (bsK key) = false := by simpa using f1
            rw [f1'] at PF
            have PF := Lib.hid PF
            have hno := not_del hjx (by rw [HD.out]; exact f1')
            have HNO := Lib.hid hno
            clear hno f1 f1'
            go_wp2_with (refine PF.out.mono ?_; rintro e w' ⟨rfl, rfl⟩)
            exact bodyPost_ret (results_tmp2 Tryz.results42 _ _ _) rfl (WritePost.no HKW.out HNO.out)
        · obtain rfl : j = m := by omega
          have hwa : wr2 X j = batB (batX X) := by rw [← wr2_all, ← HN.out.2.1]
          have hgG : w.heap.size ≤ W.heap.size := by rw [HB.out.2.2]; have := HB.out.1.lt; omega
          have HGG := Lib.hid hgG
          by_cases f3 : xj.length ≤ 1048576
          · have hcan : CanB (batX X) := can_of (by rw [← HN.out.1]; exact h1) (by rw [← HN.out.2.1]; exact h2) (by rw [← HN.out.1]; exact HK.out.2.2.2.1) (by rw [← HN.out.2.1]; exact HJ.out.2.2.2.1) (by rw [← HN.out.2.1, ← HXJ.out]; exact f3)
            have e3 : decide ((xj.length : Int) ≤ 1048576) = true := decide_eq_true (by omega)
            have HF := Lib.hid (And.intro hcan (And.intro (hwa.symm.trans HXJ.out.symm) HJ.out))
            clear hcan hwa hgG f3
            generalize hxn3 : xj.length = xm at *
            have HXM := Lib.hid hxn3
            clear hxn3
            go_wp2
            refine bodyPost_ret (results_tmp2 Tryz.results42 _ _ _) rfl ⟨HKW.out, .inl ⟨HF.out.1, pj, cj, oj, ?_, ?_, fun g hg => Nat.le_trans HGG.out (HF.out.2.2.2.1 g hg)⟩⟩
            · rw [HF.out.2.1, HXM.out]; rfl
            · rw [HF.out.2.1, HXM.out]; exact HF.out.2.2.1
          · have hno : ¬ CanB (batX X) := fun hc => by
              have := hc.len; rw [← hwa, ← HXJ.out] at this; exact f3 this
            have e3 : decide ((xj.length : Int) ≤ 1048576) = false := decide_eq_false (by omega)
            have HNO := Lib.hid hno
            clear hno hwa hgG f3
            generalize xj.length = xm at *
            go_wp2
            exact bodyPost_ret (results_tmp2 Tryz.results42 _ _ _) rfl (WritePost.no HKW.out HNO.out)
theorem pwrite (X : BatchD) (w : World) (hX : BatOk w X) :
    Calls Tryz.prog 42 #[.agg (batCs X).toArray] w (WritePost X w) := by
  change Calls Tryz.prog 42 #[.agg #[.slice X.puts.a X.puts.n X.puts.c, .slice X.dels.a X.dels.n X.dels.c]] w _
  by_cases h1 : X.puts.n ≤ 20000
  · by_cases h2 : X.dels.n ≤ 20000
    · exact pwrite_few X w h1 h2 hX
    · exact pwrite_many X w (.inr (by omega)) hX
  · exact pwrite_many X w (.inl (by omega)) hX
end Go.Proofs.YtbjbjgfjaopibaaGreatDoor
end

section
/- The reader of batches: count, text, key. -/
namespace Go.Proofs.YtbjbjgfjaopibaaGreatDoor
open Go Go.RowKit
set_option linter.unusedSimpArgs false
set_option linter.unusedVariables false
set_option maxRecDepth 100000

/-- bytes as a string -/
theorem conv_str {w : World} {p : Option Addr} {c : Nat} {xs : List Int} (h : Lib.BytesIn w p xs.length xs) : (convert 22 9 (.slice p xs.length c)).run Tryz.prog w = .ok (.string (sK (kOf xs))) w := by
  rcases Nat.eq_zero_or_pos xs.length with h0 | h0
  · obtain rfl := List.eq_nil_of_length_eq_zero h0
    exact run_convert_bytes_zero w _ _ Tryz.underlying22 Tryz.underlying5 p c _ Tryz.underlying9
  · obtain ⟨b, o, rfl, hc⟩ := h.at h0
    exact run_convert_bytes_arg (P := Tryz.prog) w 22 5 Tryz.underlying22 Tryz.underlying5 b o xs.length c xs rfl hc 9 Tryz.underlying9
/-- a reader: bytes that are left (in a block of which P holds), and whether it is bad -/
def RdP (P : Nat → Prop) (w : World) (r : Nat) (left : List Int) (bad : Bool) : Prop := ∃ p c, Blk w r #[.slice p left.length c, .bool bad] 94 ∧ Lib.BytesIn w p left.length left ∧ left.length ≤ c ∧ (c ≤ 9223372036854775807 ∧ left.length ≤ 140737488351232) ∧ (0 < left.length → ∀ q, p = some q → P q.block)
def RdJ (w : World) (r : Nat) (left : List Int) (bad : Bool) : Prop := RdP (fun b => b ≠ r) w r left bad
theorem RdP.keep {P X : Nat → Prop} {w w' : World} {r : Nat} {left : List Int} {bad : Bool} (h : RdP P w r left bad) (hk : Keep X w w') (hn : ¬ X r) (hx : ∀ b, P b → b < w.heap.size → ¬ X b) : RdP P w' r left bad := by
  obtain ⟨p, c, h1, h2, h3, h4, h5⟩ := h
  exact ⟨p, c, hk.blk h1 hn, bytes_keep h2 hk (fun h0 q hq => hx _ (h5 h0 q hq) (bytes_lt h2 h0 q hq)), h3, h4, h5⟩
theorem RdP.mono {P Q : Nat → Prop} {w : World} {r : Nat} {left : List Int} {bad : Bool} (h : RdP P w r left bad) (hq : ∀ b, P b → b < w.heap.size → Q b) : RdP Q w r left bad := by
  obtain ⟨p, c, h1, h2, h3, h4, h5⟩ := h
  exact ⟨p, c, h1, h2, h3, h4, fun h0 q e => hq _ (h5 h0 q e) (bytes_lt h2 h0 q e)⟩
theorem RdP.lt {P : Nat → Prop} {w : World} {r : Nat} {left : List Int} {bad : Bool} (h : RdP P w r left bad) : r < w.heap.size := by
  obtain ⟨p, c, h1, _⟩ := h
  exact h1.lt
/-- a reader that was written anew -/
theorem RdP.of_row {B : Nat} {w : World} {r : Nat} {v : Value} {left : List Int} {bad : Bool} {o : Option Nat} (hb : Blk w r #[v, .bool bad] 94) (h : Row w 5 v left o) (ho : ∀ g, o = some g → B ≤ g) (hl : left.length ≤ 140737488351232) : RdP (fun b => B ≤ b) w r left bad := by
  obtain ⟨p, c, rfl, hy, hle, hc, hq⟩ := h.form
  refine ⟨p, c, hb, hy, hle, ⟨by unfold maxLen at hc; omega, hl⟩, fun h0 q hp => ?_⟩
  rcases hq with ⟨h1, _⟩ | ⟨g, h1, h2, _⟩
  · rw [h1] at hp; cases hp
  · rw [h2] at hp; cases hp; exact ho g h1
def CntPost (r : Nat) (left : List Int) (bad : Bool) (w : World) (e : Ending) (w' : World) : Prop := Keep (fun k => k = r) w w' ∧
  ((∃ n s, rdCnt left = some (n, s) ∧ e = .returned (.int .i64 (n : Int)) ∧ RdP (fun b => w.heap.size ≤ b) w' r s bad ∧ n ≤ 20000) ∨ (rdCnt left = none ∧ e = .returned (.int .i64 0) ∧ ∃ s, RdP (fun b => w.heap.size ≤ b) w' r s true ∧ Byt s))
theorem CntPost.ok {r : Nat} {left : List Int} {bad : Bool} {w w' : World} {n : Nat} {s : List Int} (hk : Keep (fun k => k = r) w w') (h : rdCnt left = some (n, s)) (hr : RdP (fun b => w.heap.size ≤ b) w' r s bad) (hn : n ≤ 20000) : CntPost r left bad w (.returned (.int .i64 (n : Int))) w' := ⟨hk, .inl ⟨n, s, h, rfl, hr, hn⟩⟩
theorem CntPost.bad {r : Nat} {left : List Int} {bad : Bool} {w w' : World} {s : List Int} (hk : Keep (fun k => k = r) w w') (h : rdCnt left = none) (hr : RdP (fun b => w.heap.size ≤ b) w' r s true) (hb : Byt s) : CntPost r left bad w (.returned (.int .i64 0)) w' := ⟨hk, .inr ⟨h, rfl, s, hr, hb⟩⟩
theorem decR_byt {bs : List Int} (h : Byt bs) : Byt (decR bs) := by
  match bs, h with
  | [], _ => exact Byt.nil
  | b :: t, h => exact Byt.drop (fun y hy => h y (List.mem_cons_of_mem _ hy)) _
theorem decR_len (bs : List Int) : (decR bs).length ≤ bs.length := by
  match bs with
  | [] => exact Nat.le_refl _
  | b :: t =>
    show (t.drop (decW b)).length ≤ t.length + 1
    rw [List.length_drop]; omega
set_option maxHeartbeats 3200000 in
theorem pcount (r : Nat) (left : List Int) (bad : Bool) (w : World) (h : RdJ w r left bad) (hb : Byt left) :
    Calls Tryz.prog 58 #[.pointer (some ⟨r, 0, none⟩)] w (CntPost r left bad w) := by
  obtain ⟨p, c, b0, hy, hlc, ⟨hcm, hl⟩, hne⟩ := h
  have PD := Lib.hid (pdecode left p c w hy hb hlc hcm (by omega))
  have hdl := decR_len left
  have c0 : w.cell? ⟨r, 0, none⟩ = some (.slice p left.length c) := b0.cell 0
  have HB := Lib.hid (And.intro b0 (And.intro hb (And.intro hdl hl)))
  clear b0 hy hb hne hdl
  generalize hn : left.length = n at *
  go_enter Tryz.func58, Tryz.ntmps58
  go_wp2_with fail
  refine PD.out.mono ?_
  rintro e w1 ⟨x, v, rfl, hb1, h0, h1⟩
  have b1 := HB.out.1.beyond hb1
  have c0' : w1.cell? ⟨r, 0, none⟩ = some (.slice p n c) := b1.cell 0
  have f0 := b1.free 0
  clear c0
  have bs : Blk (w1.setCell ⟨r, 0, none⟩ v) r #[v, .bool bad] 94 := b1.set 0 v
  have k1 : Keep (fun k => k = r) w (w1.setCell ⟨r, 0, none⟩ v) := Keep.set (X := fun k => k = r) (Keep.of_below hb1) (p := ⟨r, 0, none⟩) (.inl rfl) v
  have hrw1 : r < w.heap.size := HB.out.1.lt
  by_cases hE : decE left = 0
  · obtain ⟨hx, o, R, ho⟩ := h0 hE
    obtain ⟨p2, c2, rfl, _⟩ := R.form
    obtain ⟨hdec, hlt64⟩ := enc_dec HB.out.2.1 hE
    have R1 : Row (w1.setCell ⟨r, 0, none⟩ (.slice p2 (decR left).length c2)) 5 (.slice p2 (decR left).length c2) (decR left) o := R.keep (X := fun k => k = r) (Keep.set (X := fun k => k = r) (Keep.refl _ w1) (p := ⟨r, 0, none⟩) (.inl rfl) _) (fun g hg e => by subst e; have := ho g hg; omega)
    have hr0 : RdP (fun b => w.heap.size ≤ b) (w1.setCell ⟨r, 0, none⟩ (.slice p2 (decR left).length c2)) r (decR left) bad := RdP.of_row bs R1 ho (by have := HB.out.2.2.1; omega)
    rw [hE]
    subst hx
    by_cases hm : decN left ≤ 20000
    · have hc : rdCnt left = some (decN left, decR left) := if_pos ⟨hE, hm⟩
      have HF := Lib.hid (And.intro k1 (And.intro hc (And.intro hr0 hm)))
      have m1 : decide ((20000 : Int) < (decN left : Int)) = false := decide_eq_false (by omega)
      clear h0 h1 hE R ho hdec R1 hr0 hc k1 bs b1 hb1
      generalize decN left = N at *
      generalize (decR left).length = dl at *
      go_wp2
      go_ret
      exact CntPost.ok HF.out.1 HF.out.2.1 HF.out.2.2.1 HF.out.2.2.2
    · have hc : rdCnt left = none := if_neg (fun h => hm h.2)
      have bs2 : Blk ((w1.setCell ⟨r, 0, none⟩ (.slice p2 (decR left).length c2)).setCell ⟨r, 1, none⟩ (.bool true)) r #[.slice p2 (decR left).length c2, .bool true] 94 := bs.set 1 (.bool true)
      have R2 : Row ((w1.setCell ⟨r, 0, none⟩ (.slice p2 (decR left).length c2)).setCell ⟨r, 1, none⟩ (.bool true)) 5 (.slice p2 (decR left).length c2) (decR left) o := R1.keep (X := fun k => k = r) (Keep.set (X := fun k => k = r) (Keep.refl _ (w1.setCell ⟨r, 0, none⟩ (.slice p2 (decR left).length c2))) (p := ⟨r, 1, none⟩) (.inl rfl) (.bool true)) (fun g hg e => by subst e; have := ho g hg; omega)
      have hr2 := RdP.of_row (B := w.heap.size) bs2 R2 ho (by have := HB.out.2.2.1; omega)
      have HF := Lib.hid (And.intro (k1.set (p := ⟨r, 1, none⟩) (.inl rfl) (.bool true)) (And.intro hc (And.intro hr2 (decR_byt HB.out.2.1))))
      have m1 : (20000 : Int) < (decN left : Int) := by omega
      have cs1 := bs.cell 1
      have fs1 := bs.free 1
      clear h0 h1 hE R ho hdec R1 hr0 hc k1 b1 hb1 bs2 R2 hr2 bs
      generalize decN left = N at *
      generalize (decR left).length = dl at *
      go_wp2
      go_ret
      exact CntPost.bad HF.out.1 HF.out.2.1 HF.out.2.2.1 HF.out.2.2.2
  · obtain ⟨rfl, rfl⟩ := h1 hE
    have hc : rdCnt left = none := if_neg (fun h => hE h.1)
    have hne : (decE left != 0) = true := by simpa using hE
    have bs2 : Blk ((w1.setCell ⟨r, 0, none⟩ (.slice none 0 0)).setCell ⟨r, 1, none⟩ (.bool true)) r #[.slice none 0 0, .bool true] 94 := bs.set 1 (.bool true)
    have hr2 := RdP.of_row (B := w.heap.size) bs2 (Row.nil _ _) (fun g e => by cases e) (by decide)
    have HF := Lib.hid (And.intro (k1.set (p := ⟨r, 1, none⟩) (.inl rfl) (.bool true)) (And.intro hc hr2))
    have cs1 := bs.cell 1
    have fs1 := bs.free 1
    clear h0 h1 hE hc bs2 hr2 k1 b1 hb1 bs
    generalize decE left = E at *
    go_wp2
    go_ret
    exact CntPost.bad HF.out.1 HF.out.2.1 HF.out.2.2 Byt.nil
def RtxPost (r : Nat) (left : List Int) (bad : Bool) (most : Nat) (w : World) (e : Ending) (w' : World) : Prop := Keep (fun k => k = r) w w' ∧
  ∃ (xs : List Int) (p : Option Addr) (c : Nat) (o : Option Nat), e = .returned (.slice p xs.length c) ∧ Row w' 5 (.slice p xs.length c) xs o ∧ (∀ g, o = some g → w.heap.size ≤ g) ∧ Byt xs ∧ xs.length ≤ most ∧
    ((rtE left most = 0 ∧ xs = rtX left ∧ RdP (fun b => w.heap.size ≤ b) w' r (rtR left) bad) ∨ (rtE left most ≠ 0 ∧ xs = [] ∧ RdP (fun b => w.heap.size ≤ b) w' r [] true))
theorem rt_parts {bs : List Int} {most : Nat} (hb : Byt bs) (h : rtE bs most = 0) : Byt (rtX bs) ∧ Byt (rtR bs) ∧ (rtX bs).length ≤ most ∧ (rtR bs).length ≤ bs.length := by
  obtain ⟨e, hl⟩ := enc_rt hb h
  have hb' : Byt (txtB (rtX bs) ++ rtR bs) := by rw [← e]; exact hb
  refine ⟨(hb'.left).right, hb'.right, hl, ?_⟩
  have := congrArg List.length e
  rw [List.length_append] at this; omega
set_option maxHeartbeats 3200000 in
theorem prtext (r : Nat) (left : List Int) (bad : Bool) (M : Nat) (w : World) (h : RdJ w r left bad) (hb : Byt left) (hM : M ≤ 1000000) :
    Calls Tryz.prog 60 #[.pointer (some ⟨r, 0, none⟩), .int .i64 (M : Int)] w (RtxPost r left bad M w) := by
  obtain ⟨p, c, b0, hy, hlc, ⟨hcm, hl⟩, hne⟩ := h
  have PD := Lib.hid (preadtext left M p c w hy hb hlc hcm (by omega) hM)
  have c0 : w.cell? ⟨r, 0, none⟩ = some (.slice p left.length c) := b0.cell 0
  have HB := Lib.hid (And.intro b0 (And.intro hb hl))
  clear b0 hy hb hne
  generalize hn : left.length = n at *
  have HNN := Lib.hid hn
  clear hn
  go_enter Tryz.func60, Tryz.ntmps60
  go_wp2_with fail
  refine PD.out.mono ?_
  rintro e w1 ⟨v1, v2, rfl, hb1, h0, h1⟩
  have b1 := HB.out.1.beyond hb1
  have c0' : w1.cell? ⟨r, 0, none⟩ = some (.slice p n c) := b1.cell 0
  have c1' : w1.cell? ⟨r, 1, none⟩ = some (.bool bad) := b1.cell 1
  have f0 := b1.free 0
  have f1 := b1.free 1
  clear c0
  have hrw1 : r < w.heap.size := HB.out.1.lt
  by_cases hE : rtE left M = 0
  · obtain ⟨o1, o2, R1, R2, ho1, ho2, _⟩ := h0 hE
    obtain ⟨p1, cc1, rfl, _⟩ := R1.form
    obtain ⟨p2, cc2, rfl, _⟩ := R2.form
    obtain ⟨hx1, hx2, hx3, hx4⟩ := rt_parts HB.out.2.1 hE
    have k2 : Keep (fun k => k = r) w1 ((w1.setCell ⟨r, 0, none⟩ (.slice p2 (rtR left).length cc2)).setCell ⟨r, 1, none⟩ (.bool bad)) := Keep.set (X := fun k => k = r) (Keep.set (X := fun k => k = r) (Keep.refl _ w1) (p := ⟨r, 0, none⟩) (.inl rfl) _) (p := ⟨r, 1, none⟩) (.inl rfl) _
    have bs : Blk ((w1.setCell ⟨r, 0, none⟩ (.slice p2 (rtR left).length cc2)).setCell ⟨r, 1, none⟩ (.bool bad)) r #[.slice p2 (rtR left).length cc2, .bool bad] 94 := (b1.set 0 _).set 1 _
    have R1' := R1.keep k2 (fun g hg e => by subst e; have := ho1 g hg; omega)
    have R2' := R2.keep k2 (fun g hg e => by subst e; have := ho2 g hg; omega)
    have hr0 := RdP.of_row (B := w.heap.size) bs R2' ho2 (by have := HB.out.2.2; have := HNN.out; omega)
    have kk : Keep (fun k => k = r) w ((w1.setCell ⟨r, 0, none⟩ (.slice p2 (rtR left).length cc2)).setCell ⟨r, 1, none⟩ (.bool bad)) := (Keep.of_below hb1).trans k2
    have HF := Lib.hid (And.intro kk (And.intro R1' (And.intro ho1 (And.intro hx1 (And.intro hx3 (And.intro hE hr0))))))
    rw [hE]
    clear h0 h1 hE R1 R2 ho1 ho2 k2 bs R1' R2' hr0 kk hx1 hx2 hx3 hx4 b1 hb1
    cases bad
    all_goals
      generalize (rtR left).length = rl at *
      go_wp2
      go_ret
      exact ⟨HF.out.1, rtX left, p1, cc1, o1, rfl, HF.out.2.1, HF.out.2.2.1, HF.out.2.2.2.1, HF.out.2.2.2.2.1, .inl ⟨HF.out.2.2.2.2.2.1, rfl, HF.out.2.2.2.2.2.2⟩⟩
  · obtain ⟨rfl, rfl⟩ := h1 hE
    have hne : (rtE left M != 0) = true := by simpa using hE
    have k2 : Keep (fun k => k = r) w1 ((w1.setCell ⟨r, 0, none⟩ (.slice none 0 0)).setCell ⟨r, 1, none⟩ (.bool true)) := Keep.set (X := fun k => k = r) (Keep.set (X := fun k => k = r) (Keep.refl _ w1) (p := ⟨r, 0, none⟩) (.inl rfl) _) (p := ⟨r, 1, none⟩) (.inl rfl) _
    have bs : Blk ((w1.setCell ⟨r, 0, none⟩ (.slice none 0 0)).setCell ⟨r, 1, none⟩ (.bool true)) r #[.slice none 0 0, .bool true] 94 := (b1.set 0 _).set 1 _
    have hr0 := RdP.of_row (B := w.heap.size) bs (Row.nil _ _) (fun g e => by cases e) (by decide)
    have HF := Lib.hid (And.intro ((Keep.of_below hb1).trans k2) (And.intro hE hr0))
    clear h0 h1 hE k2 bs hr0 b1 hb1
    generalize rtE left M = E at hne ⊢
    cases bad
    all_goals
      go_wp2
      go_ret
      exact ⟨HF.out.1, [], none, 0, none, rfl, Row.nil _ _, fun g hg => (by cases hg), Byt.nil, Nat.zero_le _, .inr ⟨HF.out.2.1, rfl, HF.out.2.2⟩⟩
def KeyPost (r : Nat) (left : List Int) (bad : Bool) (w : World) (e : Ending) (w' : World) : Prop := Keep (fun k => k = r) w w' ∧
  ∃ k : Key, e = .returned (.string (sK k)) ∧ k.length ≤ 100 ∧ ((∃ s, rdKey left = some (k, s) ∧ RdP (fun b => w.heap.size ≤ b) w' r s bad) ∨ (rdKey left = none ∧ ∃ s, RdP (fun b => w.heap.size ≤ b) w' r s true ∧ Byt s))
set_option maxHeartbeats 3200000 in
theorem prkey (r : Nat) (left : List Int) (bad : Bool) (w : World) (h : RdJ w r left bad) (hb : Byt left) :
    Calls Tryz.prog 59 #[.pointer (some ⟨r, 0, none⟩)] w (KeyPost r left bad w) := by
  have PT := Lib.hid (prtext r left bad 100 w h hb (by decide))
  have HH := Lib.hid (And.intro h hb)
  clear h hb
  go_enter Tryz.func59, Tryz.ntmps59
  go_wp2_with fail
  refine PT.out.mono ?_
  rintro e w1 ⟨k1, xs, p, c, o, rfl, R, ho, hbx, hxl, hcase⟩
  obtain ⟨_, _, e1, hy, _⟩ := R.form
  cases e1
  have hcv := conv_str (c := c) hy
  have PF := pfine (sK (kOf xs)) w1 (by show (kOf xs).toArray.size ≤ 140737488351232; simp [kOf]; omega)
  rw [bsK_sK] at PF
  have hkl : (kOf xs).length = xs.length := by simp [kOf]
  have hbad : ∃ b2 s2, RdP (fun b => w.heap.size ≤ b) w1 r s2 b2 ∧ Byt s2 ∧ ((rtE left 100 = 0 ∧ xs = rtX left ∧ s2 = rtR left ∧ b2 = bad) ∨ (rtE left 100 ≠ 0 ∧ xs = [] ∧ b2 = true)) := by
    rcases hcase with ⟨a1, a2, a3⟩ | ⟨a1, a2, a3⟩
    · exact ⟨bad, rtR left, a3, (rt_parts HH.out.2 a1).2.1, .inl ⟨a1, a2, rfl, rfl⟩⟩
    · exact ⟨true, [], a3, Byt.nil, .inr ⟨a1, a2, rfl⟩⟩
  obtain ⟨b2, s2, hr2, hs2, hcase2⟩ := hbad
  obtain ⟨pr, cr, b1, hyr, hlr, hcr, hnr⟩ := hr2
  have c1' : w1.cell? ⟨r, 1, none⟩ = some (.bool b2) := b1.cell 1
  have f1 := b1.free 1
  have hrw : r < w.heap.size := HH.out.1.lt
  have key : ∀ b3 : Bool, RdP (fun b => w.heap.size ≤ b) (w1.setCell ⟨r, 1, none⟩ (.bool b3)) r s2 b3 := fun b3 => by
    have k2 : Keep (fun k => k = r) w1 (w1.setCell ⟨r, 1, none⟩ (.bool b3)) := Keep.set (X := fun k => k = r) (Keep.refl _ w1) (p := ⟨r, 1, none⟩) (.inl rfl) _
    exact ⟨pr, cr, b1.set 1 _, bytes_keep hyr k2 (fun h0 q hq e => by have := hnr h0 q hq; omega), hlr, hcr, hnr⟩
  have kk : ∀ b3 : Bool, Keep (fun k => k = r) w (w1.setCell ⟨r, 1, none⟩ (.bool b3)) := fun b3 => Keep.set (X := fun k => k = r) k1 (p := ⟨r, 1, none⟩) (.inl rfl) _
  have HK := Lib.hid (And.intro key (And.intro kk (And.intro hs2 (And.intro hcase2 (And.intro hkl hxl)))))
  clear key kk hs2 hcase2 hcase hkl hxl b1 hyr hlr hcr hnr R ho hbx k1 hy
  cases hf : fineK (kOf xs)
  all_goals
    rw [hf] at PF
    have PF := Lib.hid PF
    have HF := Lib.hid hf
    clear hf
  · cases b2
    all_goals
      generalize hk : sK (kOf xs) = ks at *
      have HKS := Lib.hid hk
      clear hk
      go_wp2_with (refine PF.out.mono ?_; rintro e w' ⟨rfl, rfl⟩)
      go_ret
      refine ⟨HK.out.2.1 true, kOf xs, by rw [HKS.out]; rfl, by have := HK.out.2.2.2.2.1; have := HK.out.2.2.2.2.2; omega, .inr ⟨?_, s2, HK.out.1 true, HK.out.2.2.1⟩⟩
      refine if_neg fun hh => ?_
      rcases HK.out.2.2.2.1 with ⟨_, a2, _, _⟩ | ⟨a1, _⟩
      · have h0 : fineK (kOf xs) = true := fineK_iff.2 ⟨by
          rw [HK.out.2.2.2.2.1]
          exact Nat.pos_of_ne_zero fun h => hh.2 (by rw [← a2]; exact List.eq_nil_of_length_eq_zero h), by rw [HK.out.2.2.2.2.1]; exact HK.out.2.2.2.2.2⟩
        rw [HF.out] at h0; cases h0
      · exact a1 hh.1
  · have hok : rtE left 100 = 0 ∧ xs = rtX left ∧ s2 = rtR left ∧ b2 = bad := by
      rcases HK.out.2.2.2.1 with h | ⟨_, a2, _⟩
      · exact h
      · have := (fineK_iff.1 HF.out).1; rw [a2] at this; simp [kOf] at this
    have hrd : rdKey left = some (kOf xs, s2) := by
      rw [hok.2.2.1, hok.2.1]
      refine if_pos ⟨hok.1, fun h0 => ?_⟩
      have := (fineK_iff.1 HF.out).1; rw [hok.2.1, h0] at this; simp [kOf] at this
    have hbb := hok.2.2.2
    clear hok
    have HRD := Lib.hid (And.intro hrd hbb)
    clear hrd hbb
    cases b2
    all_goals
      generalize hk : sK (kOf xs) = ks at *
      have HKS := Lib.hid hk
      clear hk
      go_wp2_with (refine PF.out.mono ?_; rintro e w' ⟨rfl, rfl⟩)
      go_ret
      exact ⟨HK.out.2.1 _, kOf xs, by rw [HKS.out]; rfl, by have := HK.out.2.2.2.2.1; have := HK.out.2.2.2.2.2; omega, .inl ⟨s2, HRD.out.1, by rw [← HRD.out.2]; exact HK.out.1 _⟩⟩
end Go.Proofs.YtbjbjgfjaopibaaGreatDoor
end
