/- Spoil of what the statements share: bytes written over. -/
import Derived.Test.YtppcccocnmhbgaaTexts
namespace Go.Proofs.Ytppcccocnmhbgaa
open Go Go.RowKit
set_option linter.unusedSimpArgs false
set_option linter.unusedVariables false
set_option maxRecDepth 100000

/-- rows of bytes that may be written, behind G and none of them in block g, which holds them -/
def SpoilIn (w : World) (G g : Nat) (q : Option Addr) (n : Nat) (A : Nat → Option Addr) (L C : Nat → Nat) : Prop :=
  ∀ i, i < n → q = some ⟨g, 0, none⟩ ∧ w.cell? ⟨g, i, none⟩ = some (.slice (A i) (L i) (C i)) ∧ L i ≤ 140737488351232 ∧
    ∀ j, j < L i → ∃ b off z, A i = some ⟨b, off, none⟩ ∧ w.cell? ⟨b, off + j, none⟩ = some (.int .u8 z) ∧ w.frozen? ⟨b, off + j, none⟩ = false ∧ G ≤ b ∧ b ≠ g
theorem SpoilIn.set {w : World} {G g : Nat} {q : Option Addr} {n : Nat} {A : Nat → Option Addr} {L C : Nat → Nat} (h : SpoilIn w G g q n A L C) {b x : Nat} (hb : b ≠ g) (z : Int) : SpoilIn (w.setCell ⟨b, x, none⟩ (.int .u8 z)) G g q n A L C := fun i hi => by
  obtain ⟨h1, h2, h3, h4⟩ := h i hi
  refine ⟨h1, ?_, h3, fun j hj => ?_⟩
  · rw [World.cell?_setCell_other _ _ _ _ (by intro e; cases e; exact hb rfl)]; exact h2
  · obtain ⟨b', off, z', e1, e2, e3, e4⟩ := h4 j hj
    by_cases he : (⟨b, x, none⟩ : Addr) = ⟨b', off + j, none⟩
    · exact ⟨b', off, z, e1, by rw [he]; exact World.cell?_setCell_same _ _ _ e2, by rw [World.frozen?_setCell]; exact e3, e4⟩
    · exact ⟨b', off, z', e1, by rw [World.cell?_setCell_other _ _ _ _ he]; exact e2, by rw [World.frozen?_setCell]; exact e3, e4⟩
theorem ListOf.spoil {w : World} {G : Nat} {v : Value} {Zs : List (List Int)} (h : ListOf w G v Zs) : ∃ g q c A L C, v = .slice q Zs.length c ∧ Zs.length ≤ 9223372036854775807 ∧ SpoilIn w G g q Zs.length A L C := by
  obtain ⟨cs, o, hv, ho, hr⟩ := h
  obtain ⟨q, c, rfl, hle, hcm, hcase⟩ := hv.form
  have hch : ∀ i, i < Zs.length → ∃ y : Option Addr × Nat, cs[i]? = some (.slice y.1 (Zs.getD i []).length y.2) ∧ RowOf w (.slice y.1 (Zs.getD i []).length y.2) y.1 y.2 (Zs.getD i []) ∧ ∀ q, y.1 = some q → G ≤ q.block ∧ o ≠ some q.block ∧ FreeAt w q.block := fun i hi => by
    obtain ⟨A, C, h1, h2, h3⟩ := hr.2 i hi
    exact ⟨(A, C), h1, h2, h3⟩
  obtain ⟨y, hy⟩ := Go.Deep.choose_lt hch
  unfold maxLen at hcm
  rcases Nat.eq_zero_or_pos Zs.length with h0 | h0
  · exact ⟨0, q, c, fun i => (y i).1, fun i => (Zs.getD i []).length, fun i => (y i).2, rfl, by omega, fun i hi => by omega⟩
  obtain ⟨g, cap, hog, e, _, _, _, hc, _⟩ := hv.mem h0
  injection e with e1
  refine ⟨g, q, c, fun i => (y i).1, fun i => (Zs.getD i []).length, fun i => (y i).2, rfl, by omega, fun i hi => ?_⟩
  obtain ⟨h1, h2, h3⟩ := hy i hi
  refine ⟨e1, by rw [hc i (by omega)]; exact h1, h2.len, fun j hj => ?_⟩
  obtain ⟨b, off, hA, hcl⟩ := h2.bytes.at (by have : j < (Zs.getD i []).length := hj; omega)
  obtain ⟨k1, k2, k3⟩ := h3 _ hA
  exact ⟨b, off, _, hA, hcl j hj, k3.2 _, k1, fun e => k2 (by rw [hog, e])⟩
set_option maxHeartbeats 3200000 in
theorem spoil_list (w : World) (G : Nat) (v : Value) (Zs : List (List Int)) (h : ListOf w G v Zs) :
    Calls Try.prog 22 #[v] w fun e w' => e = .returned (.tuple #[]) ∧ Keep (fun b => G ≤ b) w w' := by
  obtain ⟨g, q, c, A, L, C, rfl, hn, hS⟩ := h.spoil
  clear h
  generalize Zs.length = n at *
  have HS := Lib.hid hS
  clear hS
  go_enter Try.func22, Try.ntmps22
  go_wp2
  go_loopg [7] n (fun gh i wx => ∃ k : Nat, k ≤ n ∧ i = .int .i64 (k : Int) ∧ gh = n - k ∧ Hid (SpoilIn wx G g q n A L C ∧ Keep (fun b => G ≤ b) w wx))
  case atStart => exact ⟨0, Nat.zero_le _, rfl, rfl, HS.out, Keep.refl _ _⟩
  case round =>
    obtain ⟨k, hk, rfl, hg, HK⟩ := hrel
    have HG := Lib.hid hg
    clear hg
    obtain ⟨wo, hwo⟩ : ∃ wo, wo = wr := ⟨_, rfl⟩
    subst hwo
    by_cases hlt : k < n
    · obtain ⟨rfl, h2, h3, _⟩ := HK.out.1 k hlt
      obtain ⟨ak, hak⟩ : ∃ ak, ak = A k := ⟨_, rfl⟩
      rw [← hak] at h2
      have HAK := Lib.hid hak
      clear hak
      go_wp2
      go_loopg [13] (L k) (fun gh i wx => ∃ j : Nat, j ≤ L k ∧ i = .int .i64 (j : Int) ∧ gh = L k - j ∧ Hid (SpoilIn wx G g (some ⟨g, 0, none⟩) n A L C ∧ Keep (fun b => G ≤ b) w wx))
      case atStart => exact ⟨0, Nat.zero_le _, rfl, rfl, HK.out⟩
      case round =>
        obtain ⟨j, hj, rfl, hg, HJ⟩ := hrel
        have HG2 := Lib.hid hg
        clear hg
        by_cases hlj : j < L k
        · obtain ⟨_, _, _, h4⟩ := HJ.out.1 k hlt
          obtain ⟨pb, po, z, hA, hc, hf, hG, hne⟩ := h4 j hlj
          have HN := Lib.hid (And.intro hG hne)
          clear h4 hG hne
          obtain rfl : ak = some ⟨pb, po, none⟩ := by rw [HAK.out]; exact hA
          clear hA h2
          go_wp2
          go_roundg (L k - (j + 1))
          case measure => rw [HG2.out]; omega
          case rel => exact ⟨j + 1, hlj, rfl, rfl, HJ.out.1.set HN.out.2 _, HJ.out.2.set (p := ⟨pb, po + j, none⟩) (.inl HN.out.1) _⟩
        · obtain rfl : j = L k := by omega
          go_wp2
          go_roundg (n - (k + 1))
          case measure => rw [HG.out]; omega
          case rel => exact ⟨k + 1, hlt, rfl, rfl, HJ.out⟩
    · obtain rfl : k = n := by omega
      go_wp2
      go_end0
      exact ⟨rfl, HK.out.2⟩
end Go.Proofs.Ytppcccocnmhbgaa
