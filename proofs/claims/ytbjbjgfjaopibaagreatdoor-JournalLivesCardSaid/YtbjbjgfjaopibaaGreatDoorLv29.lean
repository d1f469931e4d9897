import Derived.Test.YtbjbjgfjaopibaaGreatDoorLv28
import Derived.Test.YtbjbjgfjaopibaaGreatDoorLv13
import Derived.Test.YtbjbjgfjaopibaaGreatDoorLv25
section
/- The law's pair: open. -/
namespace Go.Proofs.YtbjbjgfjaopibaaGreatDoor
open Go Go.RowKit
set_option linter.unusedSimpArgs false
set_option linter.unusedVariables false
set_option maxRecDepth 100000

/-- what 'open' leaves -/
def OpPost (W : World) (P p y : Nat) (o oy : Option Nat) (xs : List Int) (sy ro fu : Int) (w : World) (e : Ending) (w' : World) : Prop :=
  e = .returned (.bool true) ∧ Keep (fun k => foot p o k ∨ foot y oy k ∨ k = P) w w' ∧
    (((opnS xs sy ro fu).1 = 150 ∧ ∃ oy', TwoT W w' P p o y oy' (.pointer none) (.pointer none) xs sy ro fu) ∨ ∃ (j b x : Nat) (oy' : Option Nat) (L : List PairD), J2 W w' P p o j b y oy' x (opnS xs sy ro fu).2 L)
set_option maxHeartbeats 6400000 in
theorem popen {W w : World} {P p y : Nat} {o oy : Option Nat} {jv xv : Value} {xs : List Int} {sy ro fu : Int} (hG : Glob W) (h : TwoT W w P p o y oy jv xv xs sy ro fu) :
    Calls Tryz.prog 6 #[.pointer (some ⟨P, 0, none⟩)] w (OpPost W P p y o oy xs sy ro fu w) := by
  have c2 := h.pb.cell 2
  have PO := Lib.hid (pt_open hG h.pt)
  have HH := Lib.hid h
  clear h
  go_enter Tryz.func6, Tryz.ntmps6
  go_wp2_with fail
  refine PO.out.mono ?_
  rintro e w1 ⟨k1, hcase⟩
  have hPp : ¬ foot p o P := fun hf => (HH.out.pt.ft P hf).1.2 (.inr rfl)
  have hPy : ¬ foot y oy P := fun hf => (HH.out.dt.ft P hf).1.2 (.inr rfl)
  have hPl := HH.out.pb.lt
  have pb1 := k1.blk HH.out.pb hPp
  have hW1 : W.heap.size ≤ w.heap.size := HH.out.pt.bel.size
  have hs1 := k1.size
  have c3 := pb1.cell 3
  rcases hcase with ⟨hop, rfl, hT⟩ | ⟨hop, j, b, rfl, hj, hb, hP1⟩
  · have hD1 : HT RefAt W w1 (fun k => foot p o k ∨ k = P) y oy xs sy ro fu := HH.out.dt.step tkd k1 (fun k hk => ⟨.inl hk, (HH.out.pt.ft k hk).1.1⟩) (fun k hk => ⟨.inl hk, Nat.lt_of_lt_of_le (HH.out.dt.fl k hk) hs1⟩)
    have DO := Lib.hid (dt_open hD1)
    have H1 := Lib.hid (And.intro k1 (And.intro pb1 (And.intro hT (And.intro hPp (And.intro hPy (And.intro hPl (And.intro hW1 (And.intro hs1 hD1))))))))
    clear k1 pb1 hT hPp hPy hPl hW1 hs1 hD1
    go_wp2_with fail
    refine DO.out.mono ?_
    rintro e w2 ⟨k2, oy', hoy, hcase⟩
    rcases hcase with ⟨_, rfl, hT2⟩ | ⟨hop2, _⟩
    · have pb2 := k2.blk H1.out.2.1 H1.out.2.2.2.2.1
      have hp2 : HT TapeAt W w2 (fun k => foot y oy' k ∨ k = P) p o xs sy ro fu := H1.out.2.2.1.step tkp k2 (fun k hk => ⟨.inl hk, (HH.out.dt.ft k hk).1.1⟩) (fun k hk => by
        rcases hk with hk | rfl
        · exact ⟨(foot_new hoy hk).imp .inl id, (hT2.ft k hk).2⟩
        · exact ⟨.inl (.inr rfl), by have := H1.out; have := k2.size; omega⟩)
      have d0 := pb2.cell 0
      have d1 := pb2.cell 1
      have f0 := pb2.free 0
      have f1 := pb2.free 1
      have hwP := HH.out.hP
      have k3 : Keep (fun k => k = P) w2 ((w2.setCell ⟨P, 0, none⟩ (.pointer none)).setCell ⟨P, 1, none⟩ (.pointer none)) := ((Keep.refl (fun k => k = P) w2).set (p := ⟨P, 0, none⟩) (.inl rfl) _).set (p := ⟨P, 1, none⟩) (.inl rfl) _
      have pb3 : Blk ((w2.setCell ⟨P, 0, none⟩ (.pointer none)).setCell ⟨P, 1, none⟩ (.pointer none)) P #[.pointer none, .pointer none, .pointer (some ⟨p, 0, none⟩), .pointer (some ⟨y, 0, none⟩)] 36 := (pb2.set 0 _).set 1 _
      have hs3 : ((w2.setCell ⟨P, 0, none⟩ (.pointer none)).setCell ⟨P, 1, none⟩ (.pointer none)).heap.size = w2.heap.size := by simp [World.setCell]
      have hT3 : TwoT W ((w2.setCell ⟨P, 0, none⟩ (.pointer none)).setCell ⟨P, 1, none⟩ (.pointer none)) P p o y oy' (.pointer none) (.pointer none) xs sy ro fu :=
        ⟨hp2.step tkp k3 (fun k e => ⟨.inr e, by rw [e]; exact hwP⟩) (fun k hk => ⟨.inl hk, by rw [hs3]; exact hp2.fl k hk⟩), hT2.step tkd k3 (fun k e => ⟨.inr e, by rw [e]; exact hwP⟩) (fun k hk => ⟨.inl hk, by rw [hs3]; exact hT2.fl k hk⟩), pb3, hwP⟩
      have hk3 : Keep (fun k => foot p o k ∨ foot y oy k ∨ k = P) w ((w2.setCell ⟨P, 0, none⟩ (.pointer none)).setCell ⟨P, 1, none⟩ (.pointer none)) := ((H1.out.1.mono (fun k h => .inl h)).trans (k2.mono (fun k h => .inr (.inl h)))).trans (k3.mono (fun k h => .inr (.inr h)))
      have PS := Lib.hid (psame_nil hT3)
      have HF := Lib.hid (And.intro hT3 hk3)
      clear k3 pb3 hs3 hT3 hk3 hp2 pb2 hwP k2 hoy hT2
      go_upto_region 4 with fail
      generalize (w2.setCell ⟨P, 0, none⟩ (.pointer none)).setCell ⟨P, 1, none⟩ (.pointer none) = w3 at *
      go_wp2_with fail
      refine PS.out.mono ?_
      rintro e w4 ⟨rfl, hb4⟩
      have HE := Lib.hid hb4
      clear hb4
      go_wp2
      go_ret
      exact ⟨rfl, HF.out.2.trans (Keep.of_below HE.out), .inl ⟨hop, oy', HF.out.1.more HE.out⟩⟩
    · exact absurd (hop.symm.trans hop2) (by decide)
  · have hD1 : HT RefAt W w1 (fun k => fp p o j b k ∨ k = P) y oy xs sy ro fu := HH.out.dt.step tkd k1 (fun k hk => ⟨.inl hk, (HH.out.pt.ft k hk).1.1⟩) (fun k hk => by
      rcases hk with hk | rfl
      · refine ⟨?_, (hP1.lt k hk).2⟩
        rcases hk with hk | rfl | rfl
        · exact .inl (.inl hk)
        · exact .inr hj
        · exact .inr hb
      · exact ⟨.inl (.inr rfl), by omega⟩)
    have DO := Lib.hid (dt_open hD1)
    have H1 := Lib.hid (And.intro k1 (And.intro pb1 (And.intro hP1 (And.intro hPp (And.intro hPy (And.intro hPl (And.intro hW1 (And.intro hs1 (And.intro hj hb)))))))))
    clear k1 pb1 hP1 hPp hPy hPl hW1 hs1 hD1 hj hb
    go_wp2_with fail
    refine DO.out.mono ?_
    rintro e w2 ⟨k2, oy', hoy, hcase⟩
    rcases hcase with ⟨hop2, _⟩ | ⟨_, x, L, rfl, hx, hD2⟩
    · exact absurd (hop.symm.trans hop2) (by decide)
    · have pb2 := k2.blk H1.out.2.1 H1.out.2.2.2.2.1
      have hp2 : PH W w2 (fun k => fd y oy' x k ∨ k = P) p o j b (opnS xs sy ro fu).2 := H1.out.2.2.1.step k2 (fun k hk => ⟨.inl hk, (HH.out.dt.ft k hk).1.1⟩) (fun k hk => by
        rcases hk with hk | rfl
        · refine ⟨?_, (hD2.lt k hk).2⟩
          rcases hk with hk | rfl
          · exact (foot_new hoy hk).imp .inl id
          · exact .inr hx
        · exact ⟨.inl (.inr rfl), by have := H1.out; have := k2.size; omega⟩)
      have d0 := pb2.cell 0
      have d1 := pb2.cell 1
      have f0 := pb2.free 0
      have f1 := pb2.free 1
      have hwP := HH.out.hP
      have k3 : Keep (fun k => k = P) w2 ((w2.setCell ⟨P, 0, none⟩ (.pointer (some ⟨j, 0, none⟩))).setCell ⟨P, 1, none⟩ (.pointer (some ⟨x, 0, none⟩))) := ((Keep.refl (fun k => k = P) w2).set (p := ⟨P, 0, none⟩) (.inl rfl) _).set (p := ⟨P, 1, none⟩) (.inl rfl) _
      have pb3 : Blk ((w2.setCell ⟨P, 0, none⟩ (.pointer (some ⟨j, 0, none⟩))).setCell ⟨P, 1, none⟩ (.pointer (some ⟨x, 0, none⟩))) P #[.pointer (some ⟨j, 0, none⟩), .pointer (some ⟨x, 0, none⟩), .pointer (some ⟨p, 0, none⟩), .pointer (some ⟨y, 0, none⟩)] 36 := (pb2.set 0 _).set 1 _
      have hs3 : ((w2.setCell ⟨P, 0, none⟩ (.pointer (some ⟨j, 0, none⟩))).setCell ⟨P, 1, none⟩ (.pointer (some ⟨x, 0, none⟩))).heap.size = w2.heap.size := by simp [World.setCell]
      have hT3 : J2 W ((w2.setCell ⟨P, 0, none⟩ (.pointer (some ⟨j, 0, none⟩))).setCell ⟨P, 1, none⟩ (.pointer (some ⟨x, 0, none⟩))) P p o j b y oy' x (opnS xs sy ro fu).2 L :=
        ⟨hp2.step k3 (fun k e => ⟨.inr e, by rw [e]; exact hwP⟩) (fun k hk => ⟨.inl hk, by rw [hs3]; exact hp2.t.fl k hk⟩), hD2.step k3 (fun k e => ⟨.inr e, by rw [e]; exact hwP⟩) (fun k hk => ⟨.inl hk, by rw [hs3]; exact hD2.t.fl k hk⟩), pb3, hwP⟩
      have hk3 : Keep (fun k => foot p o k ∨ foot y oy k ∨ k = P) w ((w2.setCell ⟨P, 0, none⟩ (.pointer (some ⟨j, 0, none⟩))).setCell ⟨P, 1, none⟩ (.pointer (some ⟨x, 0, none⟩))) := ((H1.out.1.mono (fun k h => .inl h)).trans (k2.mono (fun k h => .inr (.inl h)))).trans (k3.mono (fun k h => .inr (.inr h)))
      have PS := Lib.hid (psame hT3)
      have HF := Lib.hid (And.intro hT3 hk3)
      clear k3 pb3 hs3 hT3 hk3 hp2 pb2 hwP k2 hoy hD2 hx
      go_upto_region 4 with fail
      generalize (w2.setCell ⟨P, 0, none⟩ (.pointer (some ⟨j, 0, none⟩))).setCell ⟨P, 1, none⟩ (.pointer (some ⟨x, 0, none⟩)) = w3 at *
      go_wp2_with fail
      refine PS.out.mono ?_
      rintro e w4 ⟨rfl, hb4⟩
      have HE := Lib.hid hb4
      clear hb4
      go_wp2
      go_ret
      exact ⟨rfl, HF.out.2.trans (Keep.of_below HE.out), .inr ⟨j, b, x, oy', L, HF.out.1.more HE.out⟩⟩
end Go.Proofs.YtbjbjgfjaopibaaGreatDoor
end

section
/- Given batches: lists of any length; Spoil of one row. -/
namespace Go.Proofs.YtbjbjgfjaopibaaGreatDoor
open Go Go.RowKit
set_option linter.unusedSimpArgs false
set_option linter.unusedVariables false
set_option maxRecDepth 100000

theorem batL_okM {w : World} {G : Nat} {pq dq : Option Addr} {pn dn : Nat} {X : List PairD} {Y : List ByteArray} (hp : LstAt pairK 58 w G (.slice pq X.length pn) X) (hd : LstAt strK 9 w G (.slice dq Y.length dn) Y) (hx : X.length ≤ 140737488351232) (hy : Y.length ≤ 140737488351232) :
    BatOk w (batL pq pn X dq dn Y) ∧ BatIn (fun g => G ≤ g ∧ g < w.heap.size) (batL pq pn X dq dn Y) := by
  obtain ⟨o1, a1, a2, a3⟩ := hp
  obtain ⟨o2, b1, b2, b3⟩ := hd
  obtain ⟨_, _, e1, l1, m1, f1⟩ := a1.form
  cases e1
  obtain ⟨_, _, e2, l2, m2, f2⟩ := b1.form
  cases e2
  have m1 : pn ≤ 9223372036854775807 := by unfold maxLen at m1; omega
  have m2 : dn ≤ 9223372036854775807 := by unfold maxLen at m2; omega
  have hX : ∀ i, i < X.length → X.getD i ⟨⟨#[]⟩, ⟨none, 0, []⟩⟩ ∈ X := fun i hi => by rw [List.getD_eq_getElem?_getD, List.getElem?_eq_getElem hi]; exact List.getElem_mem hi
  refine ⟨⟨⟨l1, ⟨by show X.length ≤ 140737488351232; omega, m1⟩, fun e => ?_, fun i hi => ?_⟩, ⟨l2, ⟨by show Y.length ≤ 140737488351232; omega, m2⟩, fun e => ?_, fun i hi => ?_⟩⟩, ⟨fun h0 q hq => ?_, fun h0 q hq => ?_, fun i hi h0 q hq => ?_⟩⟩
  · rcases f1 with ⟨_, _, h, _⟩ | ⟨g, _, h, _⟩
    · exact h
    · have e' : pq = none := e
      rw [e'] at h; cases h
  · have hi' : i < X.length := hi
    obtain ⟨g, cap, ho, hv, _, _, hg, hc, _⟩ := a1.mem (by omega)
    cases hv
    have hat := a3 _ (hX i hi')
    refine ⟨g, 0, rfl, by rfl, fun u hu => ?_, hat.1, hat.2.1⟩
    have hu2 : u < 2 := hu
    have e3 := flat_get pairK X i u hi' hu2
    have e4 := hc (i * 2 + u) (by show i * 2 + u < X.length * 2; omega)
    rw [Nat.zero_add, e4]
    show (X.flatMap pairK.cs)[i * pairK.k + u]? = _
    rw [e3]
    show (pairCs X[i])[u]? = (pairCs (X.getD i ⟨⟨#[]⟩, ⟨none, 0, []⟩⟩))[u]?
    rw [List.getD_eq_getElem?_getD, List.getElem?_eq_getElem hi']
    rfl
  · rcases f2 with ⟨_, _, h, _⟩ | ⟨g, _, h, _⟩
    · exact h
    · have e' : dq = none := e
      rw [e'] at h; cases h
  · have hi' : i < Y.length := hi
    obtain ⟨g, cap, ho, hv, _, _, hg, hc, _⟩ := b1.mem (by omega)
    cases hv
    have hat := b3 (Y.getD i ⟨#[]⟩) (by rw [List.getD_eq_getElem?_getD, List.getElem?_eq_getElem hi']; exact List.getElem_mem hi')
    refine ⟨g, 0, rfl, by rfl, fun u hu => ?_, hat⟩
    have hu2 : u < 1 := hu
    have e3 := flat_get strK Y i u hi' hu2
    have e4 := hc (i * 1 + u) (by show i * 1 + u < Y.length * 1; omega)
    rw [Nat.zero_add, e4]
    show (Y.flatMap strK.cs)[i * strK.k + u]? = _
    rw [e3]
    show (strCs Y[i])[u]? = (strCs (Y.getD i ⟨#[]⟩))[u]?
    rw [List.getD_eq_getElem?_getD, List.getElem?_eq_getElem hi']
    rfl
  · have h0' : 0 < X.length := h0
    obtain ⟨g, cap, ho, hv, _, _, hg, hc, _⟩ := a1.mem (by omega)
    cases hv
    have hq' : (some ⟨g, 0, none⟩ : Option Addr) = some q := hq
    cases hq'
    exact ⟨a2 _ ho, hg⟩
  · have h0' : 0 < Y.length := h0
    obtain ⟨g, cap, ho, hv, _, _, hg, hc, _⟩ := b1.mem (by omega)
    cases hv
    have hq' : (some ⟨g, 0, none⟩ : Option Addr) = some q := hq
    cases hq'
    exact ⟨b2 _ ho, hg⟩
  · have hat := a3 _ (hX i hi)
    exact ⟨(hat.2.2 q hq).1, (hat.2.2 q hq).2.1⟩
/-- Spoil of one row: what stays as the row's bytes turn, stays -/
theorem spoil_inv (gs : Nat) (ak : Option Addr) (n c : Nat) (Inv : World → Prop) (w : World) (hn : n ≤ 140737488351232) (hI : Inv w)
    (hrow : ∀ w, Inv w → w.cell? ⟨gs, 0, none⟩ = some (.slice ak n c) ∧ ∀ j, j < n → ∃ b off z, ak = some ⟨b, off, none⟩ ∧ w.cell? ⟨b, off + j, none⟩ = some (.int .u8 z) ∧ w.frozen? ⟨b, off + j, none⟩ = false ∧ ∀ z', Inv (w.setCell ⟨b, off + j, none⟩ (.int .u8 z'))) :
    Calls Tryz.prog 14 #[.slice (some ⟨gs, 0, none⟩) 1 1] w fun e w' => e = .returned (.tuple #[]) ∧ Inv w' := by
  have HS := Lib.hid hI
  have HR := Lib.hid hrow
  clear hI hrow
  go_enter Tryz.func14, Tryz.ntmps14
  go_wp2
  go_loopg [7] 1 (fun gh i wx => ∃ k : Nat, k ≤ 1 ∧ i = .int .i64 (k : Int) ∧ gh = 1 - k ∧ Hid (Inv wx))
  case atStart => exact ⟨0, Nat.zero_le _, rfl, rfl, HS.out⟩
  case round =>
    obtain ⟨k, hk, rfl, hg, HK⟩ := hrel
    have HG := Lib.hid hg
    clear hg
    obtain ⟨wo, hwo⟩ : ∃ wo, wo = wr := ⟨_, rfl⟩
    subst hwo
    by_cases hlt : k < 1
    · obtain rfl : k = 0 := by omega
      have h2 := (HR.out _ HK.out).1
      go_wp2
      go_loopg [13] n (fun gh i wx => ∃ j : Nat, j ≤ n ∧ i = .int .i64 (j : Int) ∧ gh = n - j ∧ Hid (Inv wx))
      case atStart => exact ⟨0, Nat.zero_le _, rfl, rfl, HK.out⟩
      case round =>
        obtain ⟨j, hj, rfl, hg, HJ⟩ := hrel
        have HG2 := Lib.hid hg
        clear hg
        by_cases hlj : j < n
        · obtain ⟨pb, po, z, hA, hc, hf, hI⟩ := (HR.out _ HJ.out).2 j hlj
          have HN := Lib.hid hI
          clear hI
          subst hA
          clear h2
          go_wp2
          go_roundg (n - (j + 1))
          case measure => rw [HG2.out]; omega
          case rel => exact ⟨j + 1, hlj, by go_num, rfl, HN.out _⟩
        · obtain rfl : j = n := by omega
          go_wp2
          go_roundg 0
          case measure => rw [HG.out]; omega
          case rel => exact ⟨1, by omega, rfl, rfl, HJ.out⟩
    · obtain rfl : k = 1 := by omega
      go_wp2
      go_end0
      exact ⟨rfl, HK.out⟩
end Go.Proofs.YtbjbjgfjaopibaaGreatDoor
end

section
/- The law's pair: does, the calls of tapes. -/
namespace Go.Proofs.YtbjbjgfjaopibaaGreatDoor
open Go Go.RowKit
set_option linter.unusedSimpArgs false
set_option linter.unusedVariables false
set_option maxRecDepth 100000

/-- what a call leaves -/
def LV (W : World) (P p y : Nat) (w : World) : Prop :=
  (∃ (o oy : Option Nat) (xs : List Int) (sy ro fu : Int), TwoT W w P p o y oy (.pointer none) (.pointer none) xs sy ro fu) ∨ ∃ (o oy : Option Nat) (j b x : Nat) (s : JS) (L : List PairD), J2 W w P p o j b y oy x s L
/-- cells that a region reads -/
def SD (P g i : Nat) (a b c : Value) (w : World) : Prop := w.cell? ⟨P, 2, none⟩ = some a ∧ w.cell? ⟨P, 3, none⟩ = some b ∧ w.cell? ⟨g, i, none⟩ = some c
theorem SD.keep {P g i : Nat} {a b c : Value} {w w' : World} {Y : Nat → Prop} (h : SD P g i a b c w) (hk : Keep Y w w') (h1 : ¬ Y P) (h2 : ¬ Y g) : SD P g i a b c w' :=
  ⟨(hk.cell (p := ⟨P, 2, none⟩) (cell_lt h.1) h1).trans h.1, (hk.cell (p := ⟨P, 3, none⟩) (cell_lt h.2.1) h1).trans h.2.1, (hk.cell (p := ⟨g, i, none⟩) (cell_lt h.2.2) h2).trans h.2.2⟩
theorem J2.nP {W w : World} {P p j b y x : Nat} {o oy : Option Nat} {s : JS} {L : List PairD} (h : J2 W w P p o j b y oy x s L) : ¬ fp p o j b P ∧ ¬ fd y oy x P := ⟨fun hf => (h.ph.lt P hf).1.2 (.inr rfl), fun hf => (h.dh.lt P hf).1.2 (.inr rfl)⟩
set_option maxHeartbeats 6400000 in
theorem pdoes_fuse {W w : World} {P p j b y x : Nat} {o oy : Option Nat} {s : JS} {L : List PairD} (h : J2 W w P p o j b y oy x s L) (op n : Int) (pa da ba : Option Addr) (pn pc dn dc bn bc : Nat) (e1 : wrap64 ((IntKind.u64.wrap op).tmod 10) = 5) (hn : n ≤ 9223372036854775807) :
    Calls Tryz.prog 7 #[.pointer (some ⟨P, 0, none⟩), .agg #[.int .i64 op, .int .i64 n, .slice pa pn pc, .slice da dn dc, .slice ba bn bc]] w fun e w' => e = .returned (.bool true) ∧ LV W P p y w' := by
  have k0 : Below w.heap.size w (w.alloc (.cells #[.int .i64 op, .int .i64 n, .slice pa pn pc, .slice da dn dc, .slice ba bn bc] 43)) := (Below.refl w.heap.size w).alloc (Nat.le_refl _) _
  have b0 := Blk.new w #[.int .i64 op, .int .i64 n, .slice pa pn pc, .slice da dn dc, .slice ba bn bc] 43
  have h0 := h.more k0
  have hgl : ∀ k, fp p o j b k ∨ fd y oy x k → k < w.heap.size := fun k hk => hk.elim (fun h1 => (h.ph.lt k h1).2) (fun h1 => (h.dh.lt k h1).2)
  have hPw : P < w.heap.size := h.pb.lt
  go_enter Tryz.func7, Tryz.ntmps7
  go_upto_region 1 with fail
  obtain ⟨w0, hw0⟩ : ∃ w0, w0 = w.alloc (.cells #[.int .i64 op, .int .i64 n, .slice pa pn pc, .slice da dn dc, .slice ba bn bc] 43) := ⟨_, rfl⟩
  rw [← hw0] at k0 b0 h0 ⊢
  clear hw0
  obtain ⟨g, hg⟩ : ∃ g, g = w.heap.size := ⟨_, rfl⟩
  rw [← hg] at b0 ⊢
  have cb0 := b0.cell 0
  have HG := Lib.hid (And.intro k0 (And.intro b0 (And.intro h0 (And.intro hgl (And.intro hPw hg)))))
  clear k0 b0 h0 hgl hPw hg
  go_upto_region 3 with fail
  rw [e1]
  clear e1 cb0
  have hd : J2 W w0.drew P p o j b y oy x s L := HG.out.2.2.1.more (Below.refl _ _).drew
  have hgl := HG.out.2.2.2.1
  have hgd : w0.drew.heap.size = w0.heap.size := rfl
  have hS0 : SD P g 1 (.pointer (some ⟨p, 0, none⟩)) (.pointer (some ⟨y, 0, none⟩)) (.int .i64 n) w0.drew := ⟨hd.pb.cell 2, hd.pb.cell 3, HG.out.2.1.cell 1⟩
  have PF := Lib.hid (PH.fuse n hn hd.ph)
  have HD := Lib.hid hd
  clear hd
  go_upto_region 17 with fail
  refine wp_region_held_drew (S := SD P g 1 (.pointer (some ⟨p, 0, none⟩)) (.pointer (some ⟨y, 0, none⟩)) (.int .i64 n)) (by kernel_rfl) hS0 (fun hS => ?_)
  refine tkH 0 (v := ?_) rfl (by kernel_rfl) ⟨by rfl, ?_⟩ hS ?_
  rotate_left
  · intro w0 hs; obtain ⟨s1, s2, s3⟩ := hs; go_simp; try (with_reducible rfl)
  try simp only [Act.put, List.setIfInBounds_toArray, List.set_cons_zero, List.set_cons_succ]
  refine tkH 1 (v := ?_) rfl (by kernel_rfl) ⟨by rfl, ?_⟩ hS ?_
  rotate_left
  · intro w0 hs; obtain ⟨s1, s2, s3⟩ := hs; go_simp; try (with_reducible rfl)
  try simp only [Act.put, List.setIfInBounds_toArray, List.set_cons_zero, List.set_cons_succ]
  refine tkH 2 (v := ?_) rfl (by kernel_rfl) ⟨by rfl, ?_⟩ hS ?_
  rotate_left
  · intro w0 hs; obtain ⟨s1, s2, s3⟩ := hs; go_simp; try (with_reducible rfl)
  try simp only [Act.put, List.setIfInBounds_toArray, List.set_cons_zero, List.set_cons_succ]
  refine tkH 3 (v := ?_) rfl (by kernel_rfl) ⟨by rfl, ?_⟩ hS ?_
  rotate_left
  · intro w0 hs; obtain ⟨s1, s2, s3⟩ := hs; go_simp; try (with_reducible rfl)
  try simp only [Act.put, List.setIfInBounds_toArray, List.set_cons_zero, List.set_cons_succ]
  refine tkH 4 (v := ?_) rfl (by kernel_rfl) ⟨by rfl, ?_⟩ hS ?_
  rotate_left
  · intro w0 hs; obtain ⟨s1, s2, s3⟩ := hs; go_simp; try (with_reducible rfl)
  try simp only [Act.put, List.setIfInBounds_toArray, List.set_cons_zero, List.set_cons_succ]
  refine tkH 5 (v := ?_) rfl (by kernel_rfl) ⟨by rfl, ?_⟩ hS ?_
  rotate_left
  · intro w0 hs; obtain ⟨s1, s2, s3⟩ := hs; go_simp; try (with_reducible rfl)
  try simp only [Act.put, List.setIfInBounds_toArray, List.set_cons_zero, List.set_cons_succ]
  refine tkH 7 (v := ?_) rfl (by kernel_rfl) ⟨by rfl, ?_⟩ hS ?_
  rotate_left
  · intro w0 hs; obtain ⟨s1, s2, s3⟩ := hs; go_simp; try (with_reducible rfl)
  try simp only [Act.put, List.setIfInBounds_toArray, List.set_cons_zero, List.set_cons_succ]
  refine tkH 8 (v := ?_) rfl (by kernel_rfl) ⟨by rfl, ?_⟩ hS ?_
  rotate_left
  · intro w0 hs; obtain ⟨s1, s2, s3⟩ := hs; go_simp; try (with_reducible rfl)
  try simp only [Act.put, List.setIfInBounds_toArray, List.set_cons_zero, List.set_cons_succ]
  refine tkH 9 (v := ?_) rfl (by kernel_rfl) ⟨by rfl, ?_⟩ hS ?_
  rotate_left
  · intro w0 hs; obtain ⟨s1, s2, s3⟩ := hs; go_simp; try (with_reducible rfl)
  try simp only [Act.put, List.setIfInBounds_toArray, List.set_cons_zero, List.set_cons_succ]
  refine tkH 10 (v := ?_) rfl (by kernel_rfl) ⟨by rfl, ?_⟩ hS ?_
  rotate_left
  · intro w0 hs; obtain ⟨s1, s2, s3⟩ := hs; go_simp; try (with_reducible rfl)
  try simp only [Act.put, List.setIfInBounds_toArray, List.set_cons_zero, List.set_cons_succ]
  refine tkH 11 (v := ?_) rfl (by kernel_rfl) ⟨by rfl, ?_⟩ hS ?_
  rotate_left
  · intro w0 hs; obtain ⟨s1, s2, s3⟩ := hs; go_simp; try (with_reducible rfl)
  try simp only [Act.put, List.setIfInBounds_toArray, List.set_cons_zero, List.set_cons_succ]
  refine tkH 12 (v := ?_) rfl (by kernel_rfl) ⟨by rfl, ?_⟩ hS ?_
  rotate_left
  · intro w0 hs; obtain ⟨s1, s2, s3⟩ := hs; go_simp; try (with_reducible rfl)
  try simp only [Act.put, List.setIfInBounds_toArray, List.set_cons_zero, List.set_cons_succ]
  refine wpAnyH_ready (rs := [6]) (by kernel_rfl) (by simp) ?_
  refine AllReadyH.cons (o := ⟨_, _, _, _, _, _⟩) rfl (fun K hK => ?_) AllReadyH.nil
  rw [if_pos (by rfl)]
  go_step
  refine PF.out.mono ?_
  rintro e w1 ⟨rfl, P1, k1⟩
  simp only []
  refine hK.out _ _ (SD.keep hS k1 (fun h => HD.out.nP.1 (.inl h)) (fun h => by have := hgl _ (.inl (.inl h)); have := HG.out.2.2.2.2.2; omega)) (fun hS' => ?_)
  clear hS hK
  have hS := hS'; clear hS'
  try simp only [Act.put, List.setIfInBounds_toArray, List.set_cons_zero, List.set_cons_succ]
  refine wpAnyH_ready (rs := [13]) (by kernel_rfl) (by simp) ?_
  refine AllReadyH.cons (o := ⟨_, _, _, _, _, _⟩) rfl (fun K hK => ?_) AllReadyH.nil
  rw [if_pos (by rfl)]
  go_step
  have D1 := HD.out.dh.step k1 (fun k hk => ⟨.inl (.inl hk), (HD.out.ph.lt k (.inl hk)).1.1⟩) (fun k hk => ⟨.inl hk, Nat.lt_of_lt_of_le (HD.out.dh.t.fl k hk) k1.size⟩)
  refine (DH.fuse n hn D1).mono ?_
  rintro e w2 ⟨rfl, D2, k2⟩
  simp only []
  refine hK.out _ _ (SD.keep hS k2 (fun h => HD.out.nP.2 (.inl h)) (fun h => by have := hgl _ (.inr (.inl h)); have := HG.out.2.2.2.2.2; omega)) (fun hS' => ?_)
  clear hS hK
  have hS := hS'; clear hS'
  try simp only [Act.put, List.setIfInBounds_toArray, List.set_cons_zero, List.set_cons_succ]
  refine tkH 14 (v := ?_) rfl (by kernel_rfl) ⟨by rfl, ?_⟩ hS ?_
  rotate_left
  · intro w0 hs; obtain ⟨s1, s2, s3⟩ := hs; go_simp; try (with_reducible rfl)
  try simp only [Act.put, List.setIfInBounds_toArray, List.set_cons_zero, List.set_cons_succ]
  refine tkH 15 (v := ?_) rfl (by kernel_rfl) ⟨by rfl, ?_⟩ hS ?_
  rotate_left
  · intro w0 hs; obtain ⟨s1, s2, s3⟩ := hs; go_simp; try (with_reducible rfl)
  try simp only [Act.put, List.setIfInBounds_toArray, List.set_cons_zero, List.set_cons_succ]
  refine wpAnyH_done (by kernel_rfl) ?_ _
  have P2 := P1.step k2 (fun k hk => ⟨.inl (.inl hk), (HD.out.dh.lt k (.inl hk)).1.1⟩) (fun k hk => ⟨.inl hk, Nat.lt_of_lt_of_le (P1.t.fl k hk) k2.size⟩)
  have pb2 := k2.blk (k1.blk HD.out.pb (fun h => HD.out.nP.1 (.inl h))) (fun h => HD.out.nP.2 (.inl h))
  have HF := Lib.hid (show J2 W w2 P p o j b y oy x _ L from ⟨P2, D2, pb2, HD.out.hP⟩)
  clear P2 D2 pb2 D1 P1 k1 k2 hS hS0
  go_wp2
  go_ret
  exact ⟨by simp, .inr ⟨o, oy, j, b, x, _, L, HF.out⟩⟩
set_option maxHeartbeats 6400000 in
theorem pdoes_room {W w : World} {P p j b y x : Nat} {o oy : Option Nat} {s : JS} {L : List PairD} (h : J2 W w P p o j b y oy x s L) (op n : Int) (pa da ba : Option Addr) (pn pc dn dc bn bc : Nat) (e1 : wrap64 ((IntKind.u64.wrap op).tmod 10) = 6) (hn : n ≤ 9223372036854775807) :
    Calls Tryz.prog 7 #[.pointer (some ⟨P, 0, none⟩), .agg #[.int .i64 op, .int .i64 n, .slice pa pn pc, .slice da dn dc, .slice ba bn bc]] w fun e w' => e = .returned (.bool true) ∧ LV W P p y w' := by
  have k0 : Below w.heap.size w (w.alloc (.cells #[.int .i64 op, .int .i64 n, .slice pa pn pc, .slice da dn dc, .slice ba bn bc] 43)) := (Below.refl w.heap.size w).alloc (Nat.le_refl _) _
  have b0 := Blk.new w #[.int .i64 op, .int .i64 n, .slice pa pn pc, .slice da dn dc, .slice ba bn bc] 43
  have h0 := h.more k0
  have hgl : ∀ k, fp p o j b k ∨ fd y oy x k → k < w.heap.size := fun k hk => hk.elim (fun h1 => (h.ph.lt k h1).2) (fun h1 => (h.dh.lt k h1).2)
  have hPw : P < w.heap.size := h.pb.lt
  go_enter Tryz.func7, Tryz.ntmps7
  go_upto_region 1 with fail
  obtain ⟨w0, hw0⟩ : ∃ w0, w0 = w.alloc (.cells #[.int .i64 op, .int .i64 n, .slice pa pn pc, .slice da dn dc, .slice ba bn bc] 43) := ⟨_, rfl⟩
  rw [← hw0] at k0 b0 h0 ⊢
  clear hw0
  obtain ⟨g, hg⟩ : ∃ g, g = w.heap.size := ⟨_, rfl⟩
  rw [← hg] at b0 ⊢
  have cb0 := b0.cell 0
  have HG := Lib.hid (And.intro k0 (And.intro b0 (And.intro h0 (And.intro hgl (And.intro hPw hg)))))
  clear k0 b0 h0 hgl hPw hg
  go_upto_region 3 with fail
  rw [e1]
  clear e1 cb0
  have hd : J2 W w0.drew P p o j b y oy x s L := HG.out.2.2.1.more (Below.refl _ _).drew
  have hgl := HG.out.2.2.2.1
  have hgd : w0.drew.heap.size = w0.heap.size := rfl
  have hS0 : SD P g 1 (.pointer (some ⟨p, 0, none⟩)) (.pointer (some ⟨y, 0, none⟩)) (.int .i64 n) w0.drew := ⟨hd.pb.cell 2, hd.pb.cell 3, HG.out.2.1.cell 1⟩
  have PF := Lib.hid (PH.room n hd.ph)
  have HD := Lib.hid hd
  clear hd
  go_upto_region 19 with fail
  refine wp_region_held_drew (S := SD P g 1 (.pointer (some ⟨p, 0, none⟩)) (.pointer (some ⟨y, 0, none⟩)) (.int .i64 n)) (by kernel_rfl) hS0 (fun hS => ?_)
  refine tkH 0 (v := ?_) rfl (by kernel_rfl) ⟨by rfl, ?_⟩ hS ?_
  rotate_left
  · intro w0 hs; obtain ⟨s1, s2, s3⟩ := hs; go_simp; try (with_reducible rfl)
  try simp only [Act.put, List.setIfInBounds_toArray, List.set_cons_zero, List.set_cons_succ]
  refine tkH 1 (v := ?_) rfl (by kernel_rfl) ⟨by rfl, ?_⟩ hS ?_
  rotate_left
  · intro w0 hs; obtain ⟨s1, s2, s3⟩ := hs; go_simp; try (with_reducible rfl)
  try simp only [Act.put, List.setIfInBounds_toArray, List.set_cons_zero, List.set_cons_succ]
  refine tkH 2 (v := ?_) rfl (by kernel_rfl) ⟨by rfl, ?_⟩ hS ?_
  rotate_left
  · intro w0 hs; obtain ⟨s1, s2, s3⟩ := hs; go_simp; try (with_reducible rfl)
  try simp only [Act.put, List.setIfInBounds_toArray, List.set_cons_zero, List.set_cons_succ]
  refine tkH 3 (v := ?_) rfl (by kernel_rfl) ⟨by rfl, ?_⟩ hS ?_
  rotate_left
  · intro w0 hs; obtain ⟨s1, s2, s3⟩ := hs; go_simp; try (with_reducible rfl)
  try simp only [Act.put, List.setIfInBounds_toArray, List.set_cons_zero, List.set_cons_succ]
  refine tkH 4 (v := ?_) rfl (by kernel_rfl) ⟨by rfl, ?_⟩ hS ?_
  rotate_left
  · intro w0 hs; obtain ⟨s1, s2, s3⟩ := hs; go_simp; try (with_reducible rfl)
  try simp only [Act.put, List.setIfInBounds_toArray, List.set_cons_zero, List.set_cons_succ]
  refine tkH 5 (v := ?_) rfl (by kernel_rfl) ⟨by rfl, ?_⟩ hS ?_
  rotate_left
  · intro w0 hs; obtain ⟨s1, s2, s3⟩ := hs; go_simp; try (with_reducible rfl)
  try simp only [Act.put, List.setIfInBounds_toArray, List.set_cons_zero, List.set_cons_succ]
  refine tkH 7 (v := ?_) rfl (by kernel_rfl) ⟨by rfl, ?_⟩ hS ?_
  rotate_left
  · intro w0 hs; obtain ⟨s1, s2, s3⟩ := hs; go_simp; try (with_reducible rfl)
  try simp only [Act.put, List.setIfInBounds_toArray, List.set_cons_zero, List.set_cons_succ]
  refine tkH 8 (v := ?_) rfl (by kernel_rfl) ⟨by rfl, ?_⟩ hS ?_
  rotate_left
  · intro w0 hs; obtain ⟨s1, s2, s3⟩ := hs; go_simp; try (with_reducible rfl)
  try simp only [Act.put, List.setIfInBounds_toArray, List.set_cons_zero, List.set_cons_succ]
  refine tkH 9 (v := ?_) rfl (by kernel_rfl) ⟨by rfl, ?_⟩ hS ?_
  rotate_left
  · intro w0 hs; obtain ⟨s1, s2, s3⟩ := hs; go_simp; try (with_reducible rfl)
  try simp only [Act.put, List.setIfInBounds_toArray, List.set_cons_zero, List.set_cons_succ]
  refine tkH 10 (v := ?_) rfl (by kernel_rfl) ⟨by rfl, ?_⟩ hS ?_
  rotate_left
  · intro w0 hs; obtain ⟨s1, s2, s3⟩ := hs; go_simp; try (with_reducible rfl)
  try simp only [Act.put, List.setIfInBounds_toArray, List.set_cons_zero, List.set_cons_succ]
  refine tkH 11 (v := ?_) rfl (by kernel_rfl) ⟨by rfl, ?_⟩ hS ?_
  rotate_left
  · intro w0 hs; obtain ⟨s1, s2, s3⟩ := hs; go_simp; try (with_reducible rfl)
  try simp only [Act.put, List.setIfInBounds_toArray, List.set_cons_zero, List.set_cons_succ]
  refine tkH 12 (v := ?_) rfl (by kernel_rfl) ⟨by rfl, ?_⟩ hS ?_
  rotate_left
  · intro w0 hs; obtain ⟨s1, s2, s3⟩ := hs; go_simp; try (with_reducible rfl)
  try simp only [Act.put, List.setIfInBounds_toArray, List.set_cons_zero, List.set_cons_succ]
  refine wpAnyH_ready (rs := [6]) (by kernel_rfl) (by simp) ?_
  refine AllReadyH.cons (o := ⟨_, _, _, _, _, _⟩) rfl (fun K hK => ?_) AllReadyH.nil
  rw [if_pos (by rfl)]
  go_step
  refine PF.out.mono ?_
  rintro e w1 ⟨rfl, P1, k1⟩
  simp only []
  refine hK.out _ _ (SD.keep hS k1 (fun h => HD.out.nP.1 (.inl h)) (fun h => by have := hgl _ (.inl (.inl h)); have := HG.out.2.2.2.2.2; omega)) (fun hS' => ?_)
  clear hS hK
  have hS := hS'; clear hS'
  try simp only [Act.put, List.setIfInBounds_toArray, List.set_cons_zero, List.set_cons_succ]
  refine wpAnyH_ready (rs := [13]) (by kernel_rfl) (by simp) ?_
  refine AllReadyH.cons (o := ⟨_, _, _, _, _, _⟩) rfl (fun K hK => ?_) AllReadyH.nil
  rw [if_pos (by rfl)]
  go_step
  have D1 := HD.out.dh.step k1 (fun k hk => ⟨.inl (.inl hk), (HD.out.ph.lt k (.inl hk)).1.1⟩) (fun k hk => ⟨.inl hk, Nat.lt_of_lt_of_le (HD.out.dh.t.fl k hk) k1.size⟩)
  refine (DH.room n D1).mono ?_
  rintro e w2 ⟨rfl, D2, k2⟩
  simp only []
  refine hK.out _ _ (SD.keep hS k2 (fun h => HD.out.nP.2 (.inl h)) (fun h => by have := hgl _ (.inr (.inl h)); have := HG.out.2.2.2.2.2; omega)) (fun hS' => ?_)
  clear hS hK
  have hS := hS'; clear hS'
  try simp only [Act.put, List.setIfInBounds_toArray, List.set_cons_zero, List.set_cons_succ]
  refine tkH 14 (v := ?_) rfl (by kernel_rfl) ⟨by rfl, ?_⟩ hS ?_
  rotate_left
  · intro w0 hs; obtain ⟨s1, s2, s3⟩ := hs; go_simp; try (with_reducible rfl)
  try simp only [Act.put, List.setIfInBounds_toArray, List.set_cons_zero, List.set_cons_succ]
  refine tkH 15 (v := ?_) rfl (by kernel_rfl) ⟨by rfl, ?_⟩ hS ?_
  rotate_left
  · intro w0 hs; obtain ⟨s1, s2, s3⟩ := hs; go_simp; try (with_reducible rfl)
  try simp only [Act.put, List.setIfInBounds_toArray, List.set_cons_zero, List.set_cons_succ]
  refine wpAnyH_done (by kernel_rfl) ?_ _
  have P2 := P1.step k2 (fun k hk => ⟨.inl (.inl hk), (HD.out.dh.lt k (.inl hk)).1.1⟩) (fun k hk => ⟨.inl hk, Nat.lt_of_lt_of_le (P1.t.fl k hk) k2.size⟩)
  have pb2 := k2.blk (k1.blk HD.out.pb (fun h => HD.out.nP.1 (.inl h))) (fun h => HD.out.nP.2 (.inl h))
  have HF := Lib.hid (show J2 W w2 P p o j b y oy x _ L from ⟨P2, D2, pb2, HD.out.hP⟩)
  clear P2 D2 pb2 D1 P1 k1 k2 hS hS0
  go_wp2
  go_ret
  exact ⟨by simp, .inr ⟨o, oy, j, b, x, _, L, HF.out⟩⟩
end Go.Proofs.YtbjbjgfjaopibaaGreatDoor
end
