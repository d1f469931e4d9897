/- The walks of layer 18: the document's votes: Has, Peers. -/
import Derived.Test.YtgedpgdefafofaaVotesG
namespace Go.Proofs.Ytgedpgdefafofaa
open Go Go.RowKit
set_option linter.unusedSimpArgs false

theorem vhas_snoc (L : VL) (e : Int × Nat) (x : Int) : vhas (L ++ [e]) x = (vhas L x || e.1 == x) := by simp [vhas]
theorem vhas_at {L : VL} {x : Int} {k : Nat} (hk : k < L.length) (h : ((L.getD k (0, 0)).1 == x) = true) : vhas L x = true := by
  unfold vhas; rw [List.any_eq_true]; exact ⟨_, getD_mem hk, h⟩
theorem vote_wf {L : VL} (h : VL.ok L) {k : Nat} (hk : k < L.length) : (L.getD k (0, 0)).2 < W256 := (h.2 _ (getD_mem hk)).2
set_option maxHeartbeats 3200000 in
theorem qhas (p : Nat) (L : VL) (o : Option Nat) (x : Int) (w : World) (hQ : QAt w p L o) (hl : L.length ≤ 10000) :
    Calls Try.prog 13 #[.pointer (some ⟨p, 0, none⟩), .int .i64 x] w fun e w' => e = .returned (.bool (vhas L x)) ∧ Below w.heap.size w w' := by
  obtain ⟨id, v, h1, h2, n1⟩ := hQ
  have c32 := h1.cell 32
  rw [qcs_32] at c32
  obtain ⟨q, c, rfl, _, _, _⟩ := h2.form
  have H2 := Lib.hid h2
  have VI := voteInfo
  clear h1 h2 n1
  go_enter Try.func13, Try.ntmps13
  go_wp2
  go_loopg [12] L.length (fun gh i wx => ∃ k : Nat, k ≤ L.length ∧ i = .int .i64 (k : Int) ∧ gh = L.length - k ∧ Hid (Below w.heap.size w wx ∧ vhas (L.take k) x = false))
  case atStart => exact ⟨0, Nat.zero_le _, rfl, rfl, Below.refl _ _, rfl⟩
  case round =>
    obtain ⟨k, hk, rfl, hg, HM⟩ := hrel
    have HG := Lib.hid hg
    clear hg
    by_cases hlt : k < L.length
    · obtain ⟨g, cap, _, e1, hgl, hr⟩ := row_vote (H2.out.keep (X := fun _ => False) (Keep.of_below HM.out.1) (fun _ _ h => h)) k hlt
      cases e1
      have htk := Lib.hid (take_getD L k (0, 0) hlt)
      have hat := Lib.hid (vhas_at (x := x) hlt)
      generalize L.getD k (0, 0) = ek at *
      have hst := storeVote ek wr
      have KB := Lib.hid ((Below.refl wr.heap.size wr).alloc (Nat.le_refl _) (.cells (vote1 ek).toArray 54))
      have C0 : Hid ((wr.alloc (.cells (vote1 ek).toArray 54)).cell? ⟨wr.heap.size, 0, none⟩ = some (.int .i64 ek.1)) := Lib.hid ((Blk.new wr (vote1 ek).toArray 54).cell 0)
      go_upto_region 4 with (refine wpList_load_mid rfl 54 (.tmp 14) rfl g (k * 33) rfl (vote1 ek) _ hr Try.underlying54 rfl VI ?_)
      generalize wr.alloc (.cells (vote1 ek).toArray 54) = wB at *
      have hsn := Lib.hid (vhas_snoc (L.take k) ek x)
      rw [← htk.out, HM.out.2, Bool.false_or] at hsn
      obtain ⟨x0, n0⟩ := ek
      have c0 := C0.out
      clear hst hr
      by_cases hx : (x0 == x) = true
      · go_wp2
        go_ret
        exact ⟨by rw [hat.out hx]; rfl, HM.out.1.trans (KB.out.mono HM.out.1.size)⟩
      · have hx : (x0 == x) = false := by simpa using hx
        go_wp2
        go_roundg (L.length - (k + 1))
        case measure => rw [HG.out]; omega
        case rel => exact ⟨k + 1, hlt, rfl, rfl, HM.out.1.trans (KB.out.mono HM.out.1.size), hsn.out.trans hx⟩
    · obtain rfl : k = L.length := by omega
      have h := HM.out.2
      rw [List.take_length] at h
      go_wp2
      go_ret
      exact ⟨by rw [h]; rfl, HM.out.1⟩
end Go.Proofs.Ytgedpgdefafofaa
