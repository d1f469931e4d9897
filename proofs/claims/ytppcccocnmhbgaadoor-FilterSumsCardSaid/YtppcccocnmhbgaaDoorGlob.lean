/- The laid tables of sha, read. -/
import Derived.Test.YtppcccocnmhbgaaDoorSha4
import Derived.Test.YtppcccocnmhbgaaDoorRows
import Derived.LaidMore
import Derived.OpenShut
namespace Go.Proofs.YtppcccocnmhbgaaDoor
open Go Go.RowKit Go.ChangeShapes Go.WideShapes
set_option maxRecDepth 100000

theorem gFirst : Tryd.prog.globalNamed "sporran/sha.first" = some 0 := by kernel_rfl
theorem gWords : Tryd.prog.globalNamed "sporran/sha.words" = some 1 := by kernel_rfl
theorem tFirst : (Tryd.prog.globals[0]?).map (·.type) = some 65 := by kernel_rfl
theorem tWords : (Tryd.prog.globals[1]?).map (·.type) = some 71 := by kernel_rfl
theorem u32cells : Tryd.prog.cellsOf 51 = 1 := by kernel_rfl
/-- an array of words of 32 bits, read -/
theorem trod_u32s {H : Type} {enc : TypeId × Value → H} {w : World} {base : Nat} {spare : Nat → Bool} {held : Bool} {fuel n : Nat} {t : TypeId} {cs : List Value} {d : DataW H} {ps : List MemPlace} (L : List Int)
    (ht : Tryd.prog.underlying t = some (.array n 51)) (h : DataW.trod enc Tryd.prog w base spare held fuel t cs = some (d, ps)) (hd : d = .agg (L.map fun k => .lit (.int .u32 k))) (hL : L.length = n) (hct : Tryd.prog.cellsOf t = n) :
    ∀ i, i < n → cs[i]? = some (.int .u32 (L.getD i 0)) := by
  obtain ⟨xs, m, _, hx, hl, hn, hi⟩ := DataW.trod_array ht h
  rw [u32cells] at hi
  rw [hct] at hl
  intro i hlt
  have h1 := hi i hlt
  rw [Nat.mul_one] at h1
  obtain ⟨x, hxi⟩ : ∃ x, xs[i]? = some x := ⟨xs[i]'(by omega), List.getElem?_eq_getElem (by omega)⟩
  rw [hxi] at h1
  have hc : cs[i]? = some (cs[i]'(by omega)) := List.getElem?_eq_getElem (by omega)
  have h2 : (cs.drop i).take 1 = [cs[i]'(by omega)] := by simp [List.take_one, hc]
  rw [h2] at h1
  obtain ⟨z, e0, e1, _⟩ := DataW.trod_int Tryd.underlying51 h1
  rw [hc]
  simp at e0
  rw [e0]
  have e2 : xs.map (·.1) = L.map fun k => .lit (.int .u32 k) := by
    simp only [Prod.mk.injEq] at hx
    have := hx.1.symm.trans hd
    simpa using this
  have e3 := congrArg (fun l : List (DataW H) => l[i]?) e2
  simp only [List.getElem?_map, hxi, Option.map_some] at e3
  have hLi : L[i]? = some (L.getD i 0) := by
    rw [List.getD_eq_getElem?_getD, List.getElem?_eq_getElem (by omega)]; rfl
  rw [hLi, Option.map_some, e1] at e3
  simp at e3
  rw [e3]; simp [List.getD_eq_getElem?_getD]
def s0L : List Int := [0x6a09e667, 0xbb67ae85, 0x3c6ef372, 0xa54ff53a, 0x510e527f, 0x9b05688c, 0x1f83d9ab, 0x5be0cd19]
def kwL : List Int := shaK.map fun (n : Nat) => (n : Int)
theorem s0L_iv (i : Nat) (hi : i < 8) : s0L.getD i 0 = iv (s0 i) := by
  rcases (by omega : i = 0 ∨ i = 1 ∨ i = 2 ∨ i = 3 ∨ i = 4 ∨ i = 5 ∨ i = 6 ∨ i = 7) with h | h | h | h | h | h | h | h <;> subst h <;> kernel_rfl
theorem shaK_lt : ∀ i, i < 64 → shaK.getD i 0 < 4294967296 := by decide +kernel
theorem kwL_iv (i : Nat) (hi : i < 64) : kwL.getD i 0 = iv (kw i) := by
  unfold kwL kw iv
  rw [BitVec.toNat_ofNat, Nat.mod_eq_of_lt (shaK_lt i hi), List.getD_eq_getElem?_getD, List.getElem?_map, List.getD_eq_getElem?_getD]
  have : shaK[i]? = some (shaK[i]'(by rw [show shaK.length = 64 from rfl]; exact hi)) := List.getElem?_eq_getElem _
  rw [this]; rfl
theorem glob_of {W : World} (h : laidMetH Tryd.prog [("sporran/sha.words", Rows.laid_sporran_sha_words), ("sporran/sha.first", Rows.laid_sporran_sha_first)] W) : Glob W := by
  rw [MakeChecks.laidMetH_plain _ _ _ (by kernel_rfl)] at h
  obtain ⟨ps, ⟨g0, t0, cs0, f0, p0, q0, hg0, ht0, hv0, hd0, ⟨g1, t1, cs1, f1, p1, q1, hg1, ht1, hv1, hd1, _, _⟩, _⟩, _, _⟩ := h
  obtain rfl := Option.some.inj (gWords.symm.trans hg0)
  obtain rfl := Option.some.inj (gFirst.symm.trans hg1)
  obtain rfl := Option.some.inj (tWords.symm.trans ht0)
  obtain rfl := Option.some.inj (tFirst.symm.trans ht1)
  refine ⟨fun i hi => ?_, fun i hi => ?_⟩
  · have hc := trod_u32s s0L Tryd.underlying65 hd1 (by kernel_rfl) rfl (by kernel_rfl) i hi
    have := World.var?_cell hg1 hv1 i
    rw [this]
    rw [s0L_iv i hi] at hc
    simpa using hc
  · have hc := trod_u32s kwL Tryd.underlying71 hd0 (by kernel_rfl) rfl (by kernel_rfl) i hi
    have := World.var?_cell hg0 hv0 i
    rw [this]
    rw [kwL_iv i hi] at hc
    simpa using hc
end Go.Proofs.YtppcccocnmhbgaaDoor
