/- Counts read: Decode, both sides. -/
import Derived.Test.YtppcccocnmhbgaaDec
import Derived.Test.YtppcccocnmhbgaaNum
namespace Go.Proofs.Ytppcccocnmhbgaa
open Go Go.RowKit
set_option linter.unusedSimpArgs false
set_option linter.unusedVariables false
set_option maxRecDepth 100000

theorem pcut (bs : List Int) (q : Option Addr) (c : Nat) (w : World) (hy : Lib.BytesIn w q bs.length bs) (hr : ∀ y ∈ bs, 0 ≤ y ∧ y ≤ 255) (hc : bs.length ≤ c) (hcm : c ≤ 9223372036854775807) (hl47 : bs.length ≤ 140737488355328) :
    Calls Try.prog 81 #[.slice q bs.length c] w (CutPost bs w) := by
  cases bs with
  | nil => exact pcut_nil q c w
  | cons b r =>
    obtain ⟨pb, po, rfl, hcl⟩ := hy.at (by simp)
    rw [List.length_cons] at hcl hc hl47 ⊢
    by_cases h0 : decW b = 0
    · exact pcut0 b r pb po c w hcl (hr b (List.mem_cons_self ..)) hc hcm hl47 h0
    · by_cases h1 : r.length < decW b
      · exact pcut_short b r _ pb po c w hcl hc hcm hl47 rfl (by omega) h1
      · exact pcutW b r _ pb po c w hcl (fun y hy => hr y (List.mem_cons_of_mem _ hy)) hc hcm hl47 rfl (by omega) (by omega)
/-- what 'Decode' answers -/
def DecPost (bs : List Int) (w : World) (e : Ending) (w' : World) : Prop :=
  ∃ (x : Int) (v : Value), e = .returned (.tuple #[.int .u64 x, v, .int .i64 (decE bs)]) ∧ Below w.heap.size w w' ∧ (decE bs = 0 → x = (decN bs : Int) ∧ ∃ o, Row w' 5 v (decR bs) o ∧ ∀ g, o = some g → w.heap.size ≤ g) ∧ (decE bs ≠ 0 → x = 0 ∧ v = .slice none 0 0)
theorem pdecode (bs : List Int) (q : Option Addr) (c : Nat) (w : World) (hy : Lib.BytesIn w q bs.length bs) (hr : ∀ y ∈ bs, 0 ≤ y ∧ y ≤ 255) (hc : bs.length ≤ c) (hcm : c ≤ 9223372036854775807) (hl47 : bs.length ≤ 140737488355328) :
    Calls Try.prog 48 #[.slice q bs.length c] w (DecPost bs w) := by
  have PC := Lib.hid (pcut bs q c w hy hr hc hcm hl47)
  clear hy hr hc
  go_enter Try.func48, Try.ntmps48
  go_wp2_with fail
  refine PC.out.mono ?_
  rintro e w1 ⟨x, v, rfl, hb, h0, h1⟩
  by_cases hE : decE bs = 0
  · obtain ⟨hx, p, c2, rfl, hyr, hle, ⟨hcm2, hl2⟩, a, rfl⟩ := h0 hE
    have PQ := Lib.hid (Try.bytes_Clone_at a (decR bs).length c2 (decR bs) w1 rfl (by omega) (fun i hi => by
      obtain ⟨b, o2, e1, hcc⟩ := hyr.at (by omega)
      cases e1
      rw [Addr.add_lit]; exact hcc i hi))
    have HH := Lib.hid (And.intro hb (And.intro hE hx))
    clear hb h0 h1 hE hx hyr
    go_wp2_with fail
    refine PQ.out.mono ?_
    rintro e w2 ⟨v', rfl, hown, hne, hbel⟩
    obtain ⟨o', r1, r2, r3⟩ := Row.of_owns hown
    have HF := Lib.hid (And.intro r1 (And.intro r2 hbel))
    clear r1 r2 r3 hown hne hbel
    go_wp2
    exact bodyPost_ret (results_tmp3 Try.results48 _ _ _) rfl ⟨x, v', rfl, HH.out.1.trans (HF.out.2.2.mono HH.out.1.size), fun _ => ⟨HH.out.2.2, o', HF.out.1, fun g hg => Nat.le_trans HH.out.1.size (HF.out.2.1 g hg).1⟩, fun hn => absurd HH.out.2.1 hn⟩
  · obtain ⟨rfl, rfl⟩ := h1 hE
    have PQ := Lib.hid (Try.bytes_Clone_nil 0 0 w1)
    have HH := Lib.hid (And.intro hb hE)
    clear hb h0 h1 hE
    go_wp2_with fail
    refine PQ.out.mono ?_
    rintro e w2 ⟨rfl, rfl⟩
    go_wp2
    exact bodyPost_ret (results_tmp3 Try.results48 _ _ _) rfl ⟨0, _, rfl, HH.out.1, fun h => absurd h HH.out.2, fun _ => ⟨rfl, rfl⟩⟩
end Go.Proofs.Ytppcccocnmhbgaa
