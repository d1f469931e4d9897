/- What a region that draws its order holds, where it loads a long array. -/
import Derived.Test.YtacgcaebolmpfaaHash
import Derived.Deep.RegionHeld3
namespace Go.Proofs.Ytacgcaebolmpfaa
open Go.RowKit

theorem SR.keep {v w w' : World} {g : Nat} {cs : List Value} (h : Below v.heap.size v w ∧ (∀ b o, b < v.heap.size → w.cell? ⟨b, o, none⟩ = v.cell? ⟨b, o, none⟩) ∧ w.rangeAt g 0 cs) (hg : g < v.heap.size) (hb : Below w.heap.size w w') :
    Below v.heap.size v w' ∧ (∀ b o, b < v.heap.size → w'.cell? ⟨b, o, none⟩ = v.cell? ⟨b, o, none⟩) ∧ w'.rangeAt g 0 cs :=
  have k := SK.keep ⟨h.1, h.2.1⟩ hb
  ⟨k.1, k.2, fun j x hx => (hb.cell (p := ⟨g, 0 + j, none⟩) (Nat.lt_of_lt_of_le hg h.1.size)).trans (h.2.2 j x hx)⟩
theorem Blk.range {w : World} {g : Nat} {cs : List Value} {t : TypeId} (h : Blk w g cs.toArray t) : w.rangeAt g 0 cs := fun j x hx => by
  rw [h.cell, Nat.zero_add]; simpa using hx
theorem SR.start {v : World} {g : Nat} {cs : List Value} {t : TypeId} (h : Blk v g cs.toArray t) : Below v.heap.size v v.drew ∧ (∀ b o, b < v.heap.size → v.drew.cell? ⟨b, o, none⟩ = v.cell? ⟨b, o, none⟩) ∧ v.drew.rangeAt g 0 cs :=
  ⟨(SK.start v).1, (SK.start v).2, h.drew.range⟩

end Go.Proofs.Ytacgcaebolmpfaa
