import Derived.WalkKit
import Derived.Laws.BitsLemmas
import Derived.Deep.RegionHeld3
import Derived.Test.YtgedpgdefafofaaDoorRows
import Derived.Test.YtgedpgdefafofaaDoorVh1
import Derived.Deep.LoopGhost
import Derived.Test.YtgedpgdefafofaaDoorVh2
section
/- SipHash-2-4, plainly: words of 64 bits. No program in sight. -/
namespace Go.Proofs.YtgedpgdefafofaaDoor
open Go
set_option linter.unusedVariables false

abbrev B64 := BitVec 64
def lv (x : B64) : Int := (x.toNat : Int)
theorem lv_nonneg (x : B64) : 0 ≤ lv x := Int.natCast_nonneg _
theorem lv_lt (x : B64) : lv x < 18446744073709551616 := by have := x.isLt; unfold lv; omega
theorem lv_inj {a b : B64} (h : lv a = lv b) : a = b := by unfold lv at h; exact BitVec.eq_of_toNat_eq (by omega)
theorem lv_wrap (a : B64) : IntKind.u64.wrap (lv a) = lv a := by rw [IntKind.wrap_u64]; have := lv_nonneg a; have := lv_lt a; omega
theorem lv_add (a b : B64) : IntKind.u64.wrap (lv a + lv b) = lv (a + b) := by
  rw [IntKind.wrap_u64]; unfold lv; rw [BitVec.toNat_add]; omega
theorem ofInt_lv (a : B64) : BitVec.ofInt 64 (lv a) = a := by unfold lv; rw [BitVec.ofInt_natCast, BitVec.ofNat_toNat]; simp
theorem lv_xor (a b : B64) : bits .xor .u64 (lv a) (lv b) = lv (a ^^^ b) := by
  show IntKind.u64.wrap ((BitVec.ofInt 64 (lv a) ^^^ BitVec.ofInt 64 (lv b)).toNat : Int) = _
  rw [ofInt_lv, ofInt_lv]; exact lv_wrap (a ^^^ b)
theorem lv_or (a b : B64) : bits .or .u64 (lv a) (lv b) = lv (a ||| b) := by
  show IntKind.u64.wrap ((BitVec.ofInt 64 (lv a) ||| BitVec.ofInt 64 (lv b)).toNat : Int) = _
  rw [ofInt_lv, ofInt_lv]; exact lv_wrap (a ||| b)
theorem lv_and (a b : B64) : bits .and .u64 (lv a) (lv b) = lv (a &&& b) := by
  show IntKind.u64.wrap ((BitVec.ofInt 64 (lv a) &&& BitVec.ofInt 64 (lv b)).toNat : Int) = _
  rw [ofInt_lv, ofInt_lv]; exact lv_wrap (a &&& b)
theorem lv_shr (a : B64) (n : Nat) : lv a / 2 ^ n = lv (a >>> n) := by
  unfold lv
  rw [BitVec.toNat_ushiftRight, Nat.shiftRight_eq_div_pow]
  simp
theorem lv_shl (a : B64) (n : Nat) : IntKind.u64.wrap (lv a * 2 ^ n) = lv (a <<< n) := by
  rw [IntKind.wrap_u64]; unfold lv
  rw [BitVec.toNat_shiftLeft, Nat.shiftLeft_eq]
  simp
def rol (x : B64) (n : Nat) : B64 := x.rotateLeft n
theorem rol_or (x : B64) (n : Nat) (h : n < 64) : (x <<< n) ||| (x >>> (64 - n)) = rol x n := by
  unfold rol BitVec.rotateLeft BitVec.rotateLeftAux
  rw [Nat.mod_eq_of_lt h]
/-- a number below 2^64, as a word -/
def bw (n : Nat) : B64 := BitVec.ofNat 64 n
theorem lv_bw (n : Nat) (h : n < 18446744073709551616) : lv (bw n) = (n : Int) := by
  unfold lv bw; rw [BitVec.toNat_ofNat, Nat.mod_eq_of_lt (by omega)]
/-- the four words -/
structure Sip where
  a : B64
  b : B64
  c : B64
  d : B64
def Sip.cells (s : Sip) : Array Value := #[.int .u64 (lv s.a), .int .u64 (lv s.b), .int .u64 (lv s.c), .int .u64 (lv s.d)]
def sipRound (s : Sip) : Sip :=
  let a1 := s.a + s.b
  let c1 := s.c + s.d
  let b1 := rol s.b 13 ^^^ a1
  let d1 := rol s.d 16 ^^^ c1
  let a2 := rol a1 32 + d1
  let c2 := c1 + b1
  ⟨a2, rol b1 17 ^^^ c2, rol c2 32, rol d1 21 ^^^ a2⟩
def sipTake (s : Sip) (m : B64) : Sip :=
  let t := sipRound (sipRound ⟨s.a, s.b, s.c, s.d ^^^ m⟩)
  ⟨t.a ^^^ m, t.b, t.c, t.d⟩
/-- bytes are a number, the lowest first -/
def leN : List Int → Nat
  | [] => 0
  | x :: r => x.toNat + 256 * leN r
theorem leN_lt : ∀ (l : List Int), (∀ x ∈ l, 0 ≤ x ∧ x ≤ 255) → leN l < 256 ^ l.length
  | [], _ => by simp [leN]
  | x :: r, h => by
    have ih := leN_lt r (fun y hy => h y (List.mem_cons_of_mem _ hy))
    have h0 := h x (List.mem_cons_self ..)
    unfold leN
    rw [List.length_cons, Nat.pow_succ]
    omega
theorem leN_snoc (l : List Int) (x : Int) : leN (l ++ [x]) = leN l + 256 ^ l.length * x.toNat := by
  induction l with
  | nil => simp [leN]
  | cons y r ih =>
    show y.toNat + 256 * leN (r ++ [x]) = y.toNat + 256 * leN r + 256 ^ (r.length + 1) * x.toNat
    rw [ih, Nat.pow_succ, Nat.mul_add, ← Nat.mul_assoc, Nat.mul_comm 256 (256 ^ r.length)]; omega
def sipInit (k0 k1 : B64) : Sip := ⟨k0 ^^^ 0x736f6d6570736575#64, k1 ^^^ 0x646f72616e646f6d#64, k0 ^^^ 0x6c7967656e657261#64, k1 ^^^ 0x7465646279746573#64⟩
/-- so many words of eight bytes are taken -/
def sipWords (s : Sip) (bs : List Int) : Nat → Sip
  | 0 => s
  | n + 1 => sipTake (sipWords s bs n) (bw (leN ((bs.drop (8 * n)).take 8)))
/-- the last word: what is left, and how many bytes there were -/
def sipLast (bs : List Int) : B64 := bw (bs.length % 256 * 2 ^ 56 + leN (bs.drop (8 * (bs.length / 8))))
def sipEnd (s : Sip) : B64 :=
  let t := sipRound (sipRound (sipRound (sipRound ⟨s.a, s.b, s.c ^^^ 0xff#64, s.d⟩)))
  t.a ^^^ t.b ^^^ t.c ^^^ t.d
def sipS (k0 k1 : B64) (bs : List Int) : B64 := sipEnd (sipTake (sipWords (sipInit k0 k1) bs (bs.length / 8)) (sipLast bs))
end Go.Proofs.YtgedpgdefafofaaDoor
end

section
/- A region that draws its order, with a condition S on the world that holds till ALL have come up: so its last operation may write what the others read. The steps are OrdersHeld's, S being asked no more at the end. -/
namespace Go.Proofs.YtgedpgdefafofaaDoor
open Go

section
variable {P : Program} {ops : Array Oper} {Q : Exit → Act → World → Prop} {md : Region.Mode} {S : World → Prop}

/-- whatever order is picked from here on, and S holds behind every operation but number z -/
def wpAnyL (P : Program) (md : Region.Mode) (ops : Array Oper) (Q : Exit → Act → World → Prop) (S : World → Prop) (z : Nat) : Nat → Array Bool → Act → World → Prop
  | 0, listed, a, w => Region.ready md ops listed = [] ∧ Q .normal a w
  | fuel + 1, listed, a, w =>
    (Region.ready md ops listed = [] → Q .normal a w) ∧
    ∀ i ∈ Region.ready md ops listed, wpOp P ops Q i (fun a' w' => (i = z ∨ S w') ∧ wpAnyL P md ops Q S z fuel (listed.setIfInBounds i true) a' w') a w

variable {z : Nat}

theorem wpAny_of_L : ∀ (fuel : Nat) (listed : Array Bool) (a : Act) (w : World), wpAnyL P md ops Q S z fuel listed a w → wpAny P md ops Q fuel listed a w
  | 0, _, _, _, h => h
  | fuel + 1, _, _, _, h => ⟨h.1, fun i hi => wpOp_mono (fun a' w' h' => wpAny_of_L fuel _ a' w' h'.2) (h.2 i hi)⟩

/-- does operation z wait for operation i? -/
def waits (md : Region.Mode) (ops : Array Oper) (z i : Nat) : Bool := ((ops[z]?).map fun o => o.after.any fun e => Region.binds md e && e.on == i).getD false
theorem waits_spec {i : Nat} {o : Oper} (ho : ops[z]? = some o) (h : waits md ops z i = true) : ∃ e ∈ o.after, Region.binds md e = true ∧ e.on = i := by
  unfold waits at h
  rw [ho] at h
  simp only [Option.map_some, Option.getD_some, Array.any_eq_true] at h
  obtain ⟨k, hk, h⟩ := h
  rw [Bool.and_eq_true, beq_iff_eq] at h
  exact ⟨o.after[k], Array.getElem_mem hk, h.1, h.2⟩

theorem wpAnyL_first {i : Nat} {oi : Oper} {v : Value} (hi : ops[i]? = some oi) (hsel : ∀ (j : Nat) (o : Oper) cs b, ops[j]? = some o → o.op ≠ .select cs b)
    (hQ : ∀ c a w, Q (.panic c) (a.put oi.dst v) w → Q (.panic c) a w) (hz : waits md ops z i = true) :
    ∀ (fuel : Nat) (listed : Array Bool) (a : Act) (w : World),
      (∀ j oj, ops[j]? = some oj → j ≠ i → listed.getD j true = false → (∀ e ∈ oj.after, Region.binds md e = true → e.on ≠ i) → oi.apart ops oj = true) →
      i ∈ Region.ready md ops listed → YieldsIf P ops S oi v a → S w →
      wpAnyL P md ops Q S z fuel (listed.setIfInBounds i true) (a.put oi.dst v) w → wpAnyL P md ops Q S z (fuel + 1) listed a w := by
  intro fuel
  induction fuel with
  | zero =>
    intro listed a w _ hr hy hS H
    refine ⟨fun h => (by rw [h] at hr; cases hr), fun j hj => ?_⟩
    by_cases hji : j = i
    · subst hji; exact hy.wpOp hi hS ⟨.inr hS, H⟩
    · have := ready_mono hj hji
      rw [H.1] at this
      cases this
  | succ fuel ih =>
    intro listed a w hfree hr hy hS H
    refine ⟨fun h => (by rw [h] at hr; cases hr), fun j hj => ?_⟩
    by_cases hji : j = i
    · subst hji; exact hy.wpOp hi hS ⟨.inr hS, H⟩
    · have h1 := H.2 j (ready_mono hj hji)
      obtain ⟨hjun, oj, hoj, hall⟩ := mem_ready.1 hj
      have hiun := (mem_ready.1 hr).1
      have hnot : ∀ e ∈ oj.after, Region.binds md e = true → e.on ≠ i := fun e he hb heq => by
        have h1 := hall e he hb
        rw [heq] at h1
        rcases Nat.lt_or_ge i listed.size with h' | h'
        · simp [h'] at hiun h1; rw [hiun] at h1; cases h1
        · simp [Array.getElem?_eq_none h'] at h1
      have h2 := wpOp_putIf hoj (hfree j oj hoj hji hjun hnot) (fun cs b => hsel i oi cs b hi) (fun cs b => hsel j oj cs b hoj) hQ hy h1
      have hfree' : ∀ k ok, ops[k]? = some ok → k ≠ i → (listed.setIfInBounds j true).getD k true = false →
          (∀ e ∈ ok.after, Region.binds md e = true → e.on ≠ i) → oi.apart ops ok = true := fun k ok hk hki hun hno => by
        refine hfree k ok hk hki ?_ hno
        by_cases hjk : j = k
        · subst hjk; exact hjun
        · rw [getD_set_ne true hjk] at hun; exact hun
      refine wpOp_mono (fun a' w' h3 => ?_) h2
      have hSw : S w' := by
        rcases h3.2.1 with rfl | hSw
        · obtain ⟨e, he, hb, heq⟩ := waits_spec hoj hz
          exact absurd heq (hnot e he hb)
        · exact hSw
      refine ⟨.inr hSw, ih (listed.setIfInBounds j true) a' w' hfree' (ready_mono hr (Ne.symm hji)) h3.1 hSw ?_⟩
      rw [Array.setIfInBounds_comm _ _ hji]
      exact h3.2.2

/-- number i is taken first -/
theorem wpAnyL_take {i : Nat} {oi : Oper} {v : Value} {fuel : Nat} {listed : Array Bool} {a : Act} {w : World} (hi : ops[i]? = some oi)
    (hs : Region.noSelect ops = true) (hf : Region.free md ops listed i = true) (hr : (Region.ready md ops listed).contains i = true) (hz : waits md ops z i = true)
    (hQ : ∀ c a w, Q (.panic c) (a.put oi.dst v) w → Q (.panic c) a w) (hy : YieldsIf P ops S oi v a) (hS : S w)
    (h : wpAnyL P md ops Q S z fuel (listed.setIfInBounds i true) (a.put oi.dst v) w) : wpAnyL P md ops Q S z (fuel + 1) listed a w :=
  wpAnyL_first hi (Region.noSelect_spec hs) hQ hz fuel listed a w (Region.free_spec hi hf) (by simpa using hr) hy hS h
/-- one alone may come up -/
theorem wpAnyL_one {i : Nat} {oi : Oper} {fuel : Nat} {listed : Array Bool} {a : Act} {w : World} (hi : ops[i]? = some oi) (hr : Region.ready md ops listed = [i])
    (h : ∀ K' : Act → World → Prop, Shut (∀ a' w', (i = z ∨ S w') → wpAnyL P md ops Q S z fuel (listed.setIfInBounds i true) a' w' → K' a' w') →
      if Region.wanted oi (yielded ops a.tmps) = true then oi.wp P a w K' Q else K' (a.put oi.dst undef) w) : wpAnyL P md ops Q S z (fuel + 1) listed a w :=
  ⟨fun h0 => (by rw [hr] at h0; cases h0), fun j hj => by
    rw [hr] at hj
    obtain rfl : j = i := by simpa using hj
    exact wpOp_step hi fun K' hK => h K' fun a' w' hS hW => hK a' w' ⟨hS, hW⟩⟩
theorem wpAnyL_done {listed : Array Bool} {a : Act} {w : World} (hr : Region.ready md ops listed = []) (h : Q .normal a w) : ∀ fuel, wpAnyL P md ops Q S z fuel listed a w
  | 0 => ⟨hr, h⟩
  | _ + 1 => ⟨fun _ => h, by rw [hr]; simp⟩
/-- the beginning: z is the number of the operation behind which S is asked no more -/
theorem wp_region_last {id : Nat} {a : Act} {w : World} (z : Nat) (S : World → Prop) (hm : P.follows .mixedOrders = true) (hS : S w.drew)
    (h : S w.drew → wpAnyL P .any ops Q S z ops.size (Array.replicate ops.size false) a w.drew) : (Code.region id ops true).wp P Q a w :=
  wp_region_any hm (wpAny_of_L _ _ _ _ (h hS))
end
open Go.RowKit
/-- what a region that draws its order holds of the world v in which it began: old cells are as they were, and may be written as before -/
theorem SF.start (v : World) : Below v.heap.size v v.drew ∧ (∀ b o, b < v.heap.size → v.drew.cell? ⟨b, o, none⟩ = v.cell? ⟨b, o, none⟩) ∧ (∀ b o, b < v.heap.size → v.drew.frozen? ⟨b, o, none⟩ = v.frozen? ⟨b, o, none⟩) :=
  ⟨(Below.refl _ _).drew, fun _ _ _ => rfl, fun _ _ _ => rfl⟩
theorem SF.of {v w : World} (hb : Below v.heap.size v w) : Below v.heap.size v w ∧ (∀ b o, b < v.heap.size → w.cell? ⟨b, o, none⟩ = v.cell? ⟨b, o, none⟩) ∧ (∀ b o, b < v.heap.size → w.frozen? ⟨b, o, none⟩ = v.frozen? ⟨b, o, none⟩) :=
  ⟨hb, fun _ _ h => hb.cell (p := ⟨_, _, none⟩) h, fun _ _ h => hb.frozen (p := ⟨_, _, none⟩) h⟩
theorem SF.keep {v w w' : World} (h : Below v.heap.size v w ∧ (∀ b o, b < v.heap.size → w.cell? ⟨b, o, none⟩ = v.cell? ⟨b, o, none⟩) ∧ (∀ b o, b < v.heap.size → w.frozen? ⟨b, o, none⟩ = v.frozen? ⟨b, o, none⟩)) (hb : Below w.heap.size w w') :
    Below v.heap.size v w' ∧ (∀ b o, b < v.heap.size → w'.cell? ⟨b, o, none⟩ = v.cell? ⟨b, o, none⟩) ∧ (∀ b o, b < v.heap.size → w'.frozen? ⟨b, o, none⟩ = v.frozen? ⟨b, o, none⟩) :=
  SF.of (h.1.trans (hb.mono h.1.size))
end Go.Proofs.YtgedpgdefafofaaDoor
end

section
/- Bytes as numbers, the lowest first: the document's Number, the closure in filter.under; no object in sight. -/
namespace Go.Proofs.YtgedpgdefafofaaDoor
open Go Go.RowKit
set_option linter.unusedSimpArgs false
set_option linter.unusedVariables false
set_option maxRecDepth 100000

theorem leN_take_lt (ys : List Int) (hr : ∀ y ∈ ys, 0 ≤ y ∧ y ≤ 255) (k : Nat) (hk : k ≤ ys.length) : leN (ys.take k) < 256 ^ k := by
  have := leN_lt (ys.take k) (fun y hy => hr y (List.mem_of_mem_take hy))
  rwa [List.length_take, Nat.min_eq_left hk] at this
theorem leN_take_succ (ys : List Int) (k : Nat) (hk : k < ys.length) : leN (ys.take (k + 1)) = leN (ys.take k) + 256 ^ k * (ys.getD k 0).toNat := by
  rw [List.take_succ_eq_append_getElem hk, leN_snoc, List.length_take, Nat.min_eq_left (by omega)]
  congr 2
  rw [List.getD_eq_getElem?_getD, List.getElem?_eq_getElem hk]; rfl
theorem pow256 (k : Nat) : 256 ^ k = 2 ^ (8 * k) := by rw [Nat.pow_mul]
theorem le_or (a k : Nat) (x : Int) (hk : k < 8) (ha : a < 256 ^ k) (h0 : 0 ≤ x) (h1 : x ≤ 255) : bits .or .u64 (a : Int) (IntKind.u64.wrap (x * 2 ^ (8 * k))) = ((a + 256 ^ k * x.toNat : Nat) : Int) := by
  obtain ⟨n, rfl⟩ := Int.eq_ofNat_of_zero_le h0
  have hn : n < 256 := by omega
  rw [pow256] at *
  have hp : 2 ^ (8 * k) * n < 2 ^ 64 := by
    have h2 : 2 ^ (8 * k) * n < 2 ^ (8 * k) * 2 ^ 8 := Nat.mul_lt_mul_of_pos_left hn (Nat.two_pow_pos _)
    rw [← Nat.pow_add] at h2
    exact Nat.lt_of_lt_of_le h2 (Nat.pow_le_pow_right (by decide) (by omega))
  have ha2 : a < 2 ^ 64 := Nat.lt_of_lt_of_le ha (Nat.pow_le_pow_right (by decide) (by omega))
  have e : ((n : Nat) : Int) * 2 ^ (8 * k) = ((2 ^ (8 * k) * n : Nat) : Int) := by rw [Int.natCast_mul, Int.natCast_pow]; exact Int.mul_comm _ _
  show bits .or .u64 (a : Int) (IntKind.u64.wrap (((n : Nat) : Int) * 2 ^ (8 * k))) = ((a + 2 ^ (8 * k) * n : Nat) : Int)
  rw [e, IntWalk.u64_in _ (by omega)]
  rw [show bits .or .u64 (a : Int) ((2 ^ (8 * k) * n : Nat) : Int) = ((a ||| (2 ^ (8 * k) * n) : Nat) : Int) from u64_or_nat _ _ ha2 hp]
  congr 1
  rw [Nat.add_comm a, Nat.two_pow_add_eq_or_of_lt ha, Nat.or_comm]
theorem le_step (ys : List Int) (hr : ∀ y ∈ ys, 0 ≤ y ∧ y ≤ 255) (k : Nat) (hk : k < ys.length) (h8 : ys.length ≤ 8) :
    bits .or .u64 ((leN (ys.take k) : Nat) : Int) (IntKind.u64.wrap (ys.getD k 0 * 2 ^ (8 * k))) = ((leN (ys.take (k + 1)) : Nat) : Int) := by
  have hx : 0 ≤ ys.getD k 0 ∧ ys.getD k 0 ≤ 255 := by
    rw [List.getD_eq_getElem?_getD, List.getElem?_eq_getElem hk]; exact hr _ (List.getElem_mem _)
  rw [leN_take_succ ys k hk]
  exact le_or _ k _ (by omega) (leN_take_lt ys hr k (by omega)) hx.1 hx.2
theorem getD_rng {l : List Int} (h : ∀ y ∈ l, 0 ≤ y ∧ y ≤ 255) (i : Nat) : 0 ≤ l.getD i 0 ∧ l.getD i 0 ≤ 255 := by
  rw [List.getD_eq_getElem?_getD]
  by_cases hi : i < l.length
  · rw [List.getElem?_eq_getElem hi]; exact h _ (List.getElem_mem hi)
  · rw [List.getElem?_eq_none (by omega)]; exact ⟨Int.le_refl 0, by decide⟩
set_option maxHeartbeats 1600000 in
theorem pword (ys : List Int) (q : Option Addr) (c : Nat) (w : World) (hy : Lib.BytesIn w q ys.length ys) (hr : ∀ y ∈ ys, 0 ≤ y ∧ y ≤ 255) (h8 : ys.length ≤ 8) :
    Calls Tryd.prog 68 #[.slice q ys.length c] w fun e w' => e = .returned (.int .u64 ((leN ys : Nat) : Int)) ∧ w = w' := by
  have HY := Lib.hid hy
  have HR := Lib.hid hr
  have H8 := Lib.hid h8
  obtain ⟨N, hN⟩ : ∃ N, N = ys.length := ⟨_, rfl⟩
  rw [← hN] at HY h8 ⊢
  have HN := Lib.hid hN
  clear hy hr hN
  go_enter Tryd.func68, Tryd.ntmps68
  go_wp2
  go_loopg [3, 8] N (fun gh s i wx => ∃ k t : Nat, k ≤ N ∧ s = .int .u64 (t : Int) ∧ i = .int .i64 (k : Int) ∧ gh = N - k ∧ Hid (t = leN (ys.take k)) ∧ wx = w)
  case atStart => exact ⟨0, 0, Nat.zero_le _, rfl, rfl, rfl, by rw [List.take_zero]; rfl, rfl⟩
  case round =>
    obtain ⟨k, t, hk, rfl, rfl, hg, HT, hwx⟩ := hrel
    obtain rfl : w = wr := hwx.symm
    have HGK := Lib.hid hg
    clear hg
    by_cases hlt : k < N
    · obtain ⟨b, o, rfl, hc⟩ := HY.out.at (by omega)
      have cb := hc k hlt
      have hst := le_step ys HR.out k (by rw [← HN.out]; exact hlt) H8.out
      have hx := getD_rng HR.out k
      generalize ys.getD k 0 = x at *
      rw [← HT.out] at hst
      generalize hu : leN (ys.take (k + 1)) = u at *
      have HU := Lib.hid hu
      obtain ⟨hx0, hx1⟩ := hx
      have a2 : IntKind.i64.wrap (8 * (k : Int)) = 8 * (k : Int) := by rw [IntKind.wrap_i64]; omega
      have hux : IntKind.u64.wrap x = x := IntWalk.u64_in _ (by omega)
      clear hc hu
      go_wp2
      go_roundg (N - (k + 1))
      case measure => rw [HGK.out]; omega
      case rel => exact ⟨k + 1, u, hlt, rfl, rfl, rfl, HU.out.symm, rfl⟩
    · obtain rfl : k = N := by omega
      go_wp2
      go_ret
      refine ⟨congrArg (fun n : Nat => Ending.returned (.int .u64 (n : Int))) ?_, rfl⟩
      rw [HT.out, List.take_of_length_le (by rw [HN.out]; exact Nat.le_refl _)]
end Go.Proofs.YtgedpgdefafofaaDoor
end

section
/- Counts' bytes, the document's: Low, Encode. -/
namespace Go.Proofs.YtgedpgdefafofaaDoor
open Go Go.RowKit
set_option linter.unusedSimpArgs false
set_option linter.unusedVariables false
set_option maxRecDepth 100000

/-- ONE byte behind a row, laid in a block of its own first -/
theorem row_snoc {P : Program} {w : World} {e : TypeId} {v : Value} {xs : List Int} {o : Option Nat} (t ty : TypeId) (i : TypeInfo) (z : Value) (ht : P.underlying t = some (.slice e)) (hi : P.info? e = some i) (hz : i.zero = some z) (hs : i.size = 1) (hby : i.bytes = 1) (hzs : z.cells.size = 1)
    (h : Row w e v xs o) (u : Int) (hb : xs.length + 1 ≤ 140737488355328) :
    ∃ p' c' w' o', (Builtin.append_ #[t, t] ty #[v, .slice (some ⟨w.heap.size, 0, none⟩) 1 1]).run P (w.alloc (.cells #[.int .u8 u] e)) = .ok (.slice p' (xs.length + 1) c') w' ∧ Row w' e (.slice p' (xs.length + 1) c') (xs ++ [u]) o' ∧ (o' = o ∨ ∃ g', o' = some g' ∧ w.heap.size ≤ g') ∧ Keep (fun k => o = some k) w w' := by
  have h' := h.keep (X := fun _ => False) ((Keep.refl _ w).alloc (.cells #[.int .u8 u] e)) (fun _ _ h => h)
  obtain ⟨v', w', o', r1, r2, r3, r4⟩ := row_appendL (P := P) t ty i z ht hi hz hs hby hzs h' (p := some ⟨w.heap.size, 0, none⟩) (c := 1) (ys := [u]) (Lib.BytesIn.of_cells fun j hj => by
    match j, hj with
    | 0, _ => rw [Addr.add_lit, (Blk.new w #[.int .u8 u] e).cell]; rfl
    | j + 1, hj => simp at hj) (by simpa using hb)
  obtain ⟨p, cap', rfl, _⟩ := r2.form
  rw [show (xs ++ [u]).length = xs.length + 1 from by simp] at r1 r2
  exact ⟨p, cap', w', o', r1, r2, r3.imp id (fun ⟨g', h1, h2⟩ => ⟨g', h1, by simp at h2; omega⟩), ((Keep.refl _ w).alloc _).trans r4⟩
/-- a number in so many bytes, the lowest first -/
def leB (n k : Nat) : List Int := (List.range k).map fun i => ((n / 2 ^ (8 * i) % 256 : Nat) : Int)
theorem leB_length (n k : Nat) : (leB n k).length = k := by simp [leB]
theorem leB_succ (n k : Nat) : leB n k ++ [((n / 2 ^ (8 * k) % 256 : Nat) : Int)] = leB n (k + 1) := by
  unfold leB; rw [List.range_succ, List.map_append]; rfl
def encS (n : Nat) : List Int := if n < 253 then [(n : Int)] else if n ≤ 65535 then 253 :: leB n 2 else if n ≤ 4294967295 then 254 :: leB n 4 else 255 :: leB n 8
theorem u8inf : (Tryd.prog.info? 5).map (fun i => (i.zero, i.size, i.bytes)) = some (some (.int .u8 0), 1, 1) := by kernel_rfl
set_option maxHeartbeats 1600000 in
theorem rlow (n k : Nat) (hn : n < 18446744073709551616) (hk : k ≤ 8) (w : World) : Calls Tryd.prog 58 #[.int .u64 (n : Int), .int .i64 (k : Int)] w fun e w' => ∃ p c o, e = .returned (.slice p k c) ∧ Row w' 5 (.slice p k c) (leB n k) o ∧ (∀ g, o = some g → w.heap.size ≤ g) ∧ Below w.heap.size w w' := by
  obtain ⟨i0, hi, hz0, hz1, hz2⟩ := info_parts u8inf
  have HI := Lib.hid (And.intro hi (And.intro hz0 (And.intro hz1 hz2)))
  clear hi hz0 hz1 hz2
  go_enter Tryd.func58, Tryd.ntmps58
  go_wp2
  generalize hgw : w.heap.size = G at *
  go_loopg [5, 8] k (fun gh v i wx => ∃ (j : Nat) (p : Option Addr) (c : Nat) (o : Option Nat), j ≤ k ∧ v = .slice p j c ∧ i = .int .i64 (j : Int) ∧ gh = k - j ∧ Hid (Row wx 5 (.slice p j c) (leB n j) o ∧ (∀ g, o = some g → G ≤ g) ∧ Below G w wx))
  case atStart => exact ⟨0, none, 0, none, Nat.zero_le _, rfl, rfl, rfl, Row.nil _ _, fun g hg => (by cases hg), by rw [← hgw]; exact Below.refl _ _⟩
  case round =>
    obtain ⟨j, p, c, o, hj, rfl, rfl, hg, HR⟩ := hrel
    have HGK := Lib.hid hg
    clear hg
    by_cases hlt : j < k
    · have a2 : IntKind.i64.wrap (8 * (j : Int)) = 8 * (j : Int) := by rw [IntKind.wrap_i64]; omega
      obtain ⟨p3, c3, w3, o3, run3, R3, ho3, k3⟩ := row_snoc (P := Tryd.prog) 30 30 i0 (.int .u8 0) Tryd.underlying30 HI.out.1 HI.out.2.1 HI.out.2.2.1 HI.out.2.2.2 rfl (v := .slice p j c) (xs := leB n j) HR.out.1 ((n : Int) / 2 ^ (8 * j) % 256) (by rw [leB_length]; omega)
      rw [leB_length] at run3 R3
      rw [show ((n : Int) / 2 ^ (8 * j) % 256) = ((n / 2 ^ (8 * j) % 256 : Nat) : Int) from by simp, leB_succ] at R3
      have H3 := Lib.hid (And.intro R3 (own_step hgw HR.out.2.2 HR.out.2.1 ho3 k3))
      clear R3 ho3 k3
      go_wp2_with (at_builtin; refine wpl_append rfl _ _ 30 rfl rfl rfl run3 ?_)
      go_roundg (k - (j + 1))
      case measure => rw [HGK.out]; omega
      case rel => exact ⟨j + 1, p3, c3, o3, hlt, rfl, rfl, rfl, H3.out⟩
    · obtain rfl : j = k := by omega
      subst hgw
      go_wp2
      go_ret
      exact ⟨p, c, o, rfl, HR.out⟩
theorem encS_1 {n : Nat} (h : n < 253) : encS n = [(n : Int)] := if_pos h
theorem encS_3 {n : Nat} (h : ¬ n < 253) (h2 : n ≤ 65535) : encS n = 253 :: leB n 2 := by unfold encS; rw [if_neg h, if_pos h2]
theorem encS_5 {n : Nat} (h : ¬ n < 253) (h2 : ¬ n ≤ 65535) (h3 : n ≤ 4294967295) : encS n = 254 :: leB n 4 := by unfold encS; rw [if_neg h, if_neg h2, if_pos h3]
theorem encS_9 {n : Nat} (h : ¬ n < 253) (h2 : ¬ n ≤ 65535) (h3 : ¬ n ≤ 4294967295) : encS n = 255 :: leB n 8 := by unfold encS; rw [if_neg h, if_neg h2, if_neg h3]
theorem renc1 (n : Nat) (hn : n < 253) (w : World) : Calls Tryd.prog 30 #[.int .u64 (n : Int)] w fun e w' => ∃ p c o, e = .returned (.slice p 1 c) ∧ Row w' 5 (.slice p 1 c) [(n : Int)] o ∧ (∀ g, o = some g → w.heap.size ≤ g) ∧ Below w.heap.size w w' := by
  have h1 : (n : Int) < 253 := by omega
  have R0 : Row (w.alloc (.cells #[.int .u8 (n : Int)] 5)) 5 (.slice (some ⟨w.heap.size, 0, none⟩) 1 1) [(n : Int)] (some w.heap.size) :=
    .inr ⟨w.heap.size, 1, #[.int .u8 (n : Int)], rfl, rfl, Blk.new _ _ _, Nat.le_refl _, Nat.le_refl _, (by decide), rfl⟩
  have HR := Lib.hid R0
  clear R0
  go_enter Tryd.func30, Tryd.ntmps30
  go_wp2
  go_ret
  exact ⟨_, _, some w.heap.size, rfl, HR.out, fun g hg => (by cases hg; exact Nat.le_refl _), (Below.refl _ _).alloc (Nat.le_refl _) _⟩
set_option maxHeartbeats 1600000 in
theorem renc3 (n : Nat) (hn : n < 18446744073709551616) (h1 : ¬ n < 253) (h2 : n ≤ 65535) (w : World) : Calls Tryd.prog 30 #[.int .u64 (n : Int)] w fun e w' => ∃ p c o, e = .returned (.slice p (2 + 1) c) ∧ Row w' 5 (.slice p (2 + 1) c) (253 :: leB n 2) o ∧ (∀ g, o = some g → w.heap.size ≤ g) ∧ Below w.heap.size w w' := by
  obtain ⟨i0, hi, hz0, hz1, hz2⟩ := info_parts u8inf
  have PL := Lib.hid (rlow n 2 hn (by decide) (w.alloc (.cells #[.int .u8 253] 5)))
  have R0 : Row (w.alloc (.cells #[.int .u8 253] 5)) 5 (.slice (some ⟨w.heap.size, 0, none⟩) 1 1) [253] (some w.heap.size) :=
    .inr ⟨w.heap.size, 1, #[.int .u8 253], rfl, rfl, Blk.new _ _ _, Nat.le_refl _, Nat.le_refl _, (by decide), rfl⟩
  have HR := Lib.hid R0
  have d1 : decide ((n : Int) < 253) = false := decide_eq_false (by omega); have d2 : decide ((n : Int) ≤ 65535) = true := decide_eq_true (by omega)
  clear R0 hn h1 h2
  go_enter Tryd.func30, Tryd.ntmps30
  go_wp2_with fail
  refine PL.out.mono ?_
  rintro e w1 ⟨p1, c1, o1, rfl, R1, ho1, hb1⟩
  have R2 := HR.out.keep (Keep.of_below (X := fun _ => False) hb1) (fun _ _ h => h)
  obtain ⟨_, _, e1, hy, _⟩ := R1.form
  cases e1
  rw [leB_length] at hy
  obtain ⟨v2, w2, o2, run2, R3, ho2, k2⟩ := row_appendL (P := Tryd.prog) 30 30 i0 (.int .u8 0) Tryd.underlying30 hi hz0 hz1 hz2 rfl R2 (p := p1) (c := c1) (ys := leB n 2) (by rw [leB_length]; exact hy) (by rw [leB_length]; decide)
  have hbw : Below w.heap.size w w1 := ((Below.refl w.heap.size w).alloc (Nat.le_refl _) _).trans (hb1.mono (by simp))
  have H2 := Lib.hid (own_step rfl hbw (fun g hg => by cases hg; exact Nat.le_refl _) ho2 k2)
  rw [leB_length] at run2
  obtain ⟨p2, c2, rfl, _⟩ := R3.form
  have HR3 := Lib.hid R3
  clear R1 R2 R3 ho1 hb1 hbw hy ho2 k2
  go_wp2_with (at_builtin; refine wpl_append rfl _ _ 30 rfl rfl rfl run2 ?_)
  go_ret
  have hl : ([253] ++ leB n 2).length = 2 + 1 := by rw [List.length_append, leB_length]; rfl
  have R4 := HR3.out
  rw [hl] at R4
  exact ⟨p2, c2, o2, congrArg (fun m => Ending.returned (.slice p2 m c2)) hl, R4, H2.out⟩
set_option maxHeartbeats 1600000 in
theorem renc5 (n : Nat) (hn : n < 18446744073709551616) (h1 : ¬ n ≤ 65535) (h2 : n ≤ 4294967295) (w : World) : Calls Tryd.prog 30 #[.int .u64 (n : Int)] w fun e w' => ∃ p c o, e = .returned (.slice p (4 + 1) c) ∧ Row w' 5 (.slice p (4 + 1) c) (254 :: leB n 4) o ∧ (∀ g, o = some g → w.heap.size ≤ g) ∧ Below w.heap.size w w' := by
  obtain ⟨i0, hi, hz0, hz1, hz2⟩ := info_parts u8inf
  have PL := Lib.hid (rlow n 4 hn (by decide) (w.alloc (.cells #[.int .u8 254] 5)))
  have R0 : Row (w.alloc (.cells #[.int .u8 254] 5)) 5 (.slice (some ⟨w.heap.size, 0, none⟩) 1 1) [254] (some w.heap.size) :=
    .inr ⟨w.heap.size, 1, #[.int .u8 254], rfl, rfl, Blk.new _ _ _, Nat.le_refl _, Nat.le_refl _, (by decide), rfl⟩
  have HR := Lib.hid R0
  have d1 : decide ((n : Int) < 253) = false := decide_eq_false (by omega); have d2 : decide ((n : Int) ≤ 65535) = false := decide_eq_false (by omega); have d3 : decide ((n : Int) ≤ 4294967295) = true := decide_eq_true (by omega)
  clear R0 hn h1 h2
  go_enter Tryd.func30, Tryd.ntmps30
  go_wp2_with fail
  refine PL.out.mono ?_
  rintro e w1 ⟨p1, c1, o1, rfl, R1, ho1, hb1⟩
  have R2 := HR.out.keep (Keep.of_below (X := fun _ => False) hb1) (fun _ _ h => h)
  obtain ⟨_, _, e1, hy, _⟩ := R1.form
  cases e1
  rw [leB_length] at hy
  obtain ⟨v2, w2, o2, run2, R3, ho2, k2⟩ := row_appendL (P := Tryd.prog) 30 30 i0 (.int .u8 0) Tryd.underlying30 hi hz0 hz1 hz2 rfl R2 (p := p1) (c := c1) (ys := leB n 4) (by rw [leB_length]; exact hy) (by rw [leB_length]; decide)
  have hbw : Below w.heap.size w w1 := ((Below.refl w.heap.size w).alloc (Nat.le_refl _) _).trans (hb1.mono (by simp))
  have H2 := Lib.hid (own_step rfl hbw (fun g hg => by cases hg; exact Nat.le_refl _) ho2 k2)
  rw [leB_length] at run2
  obtain ⟨p2, c2, rfl, _⟩ := R3.form
  have HR3 := Lib.hid R3
  clear R1 R2 R3 ho1 hb1 hbw hy ho2 k2
  go_wp2_with (at_builtin; refine wpl_append rfl _ _ 30 rfl rfl rfl run2 ?_)
  go_ret
  have hl : ([254] ++ leB n 4).length = 4 + 1 := by rw [List.length_append, leB_length]; rfl
  have R4 := HR3.out
  rw [hl] at R4
  exact ⟨p2, c2, o2, congrArg (fun m => Ending.returned (.slice p2 m c2)) hl, R4, H2.out⟩
set_option maxHeartbeats 1600000 in
theorem renc9 (n : Nat) (hn : n < 18446744073709551616) (h2 : ¬ n ≤ 4294967295) (w : World) : Calls Tryd.prog 30 #[.int .u64 (n : Int)] w fun e w' => ∃ p c o, e = .returned (.slice p (8 + 1) c) ∧ Row w' 5 (.slice p (8 + 1) c) (255 :: leB n 8) o ∧ (∀ g, o = some g → w.heap.size ≤ g) ∧ Below w.heap.size w w' := by
  obtain ⟨i0, hi, hz0, hz1, hz2⟩ := info_parts u8inf
  have PL := Lib.hid (rlow n 8 hn (by decide) (w.alloc (.cells #[.int .u8 255] 5)))
  have R0 : Row (w.alloc (.cells #[.int .u8 255] 5)) 5 (.slice (some ⟨w.heap.size, 0, none⟩) 1 1) [255] (some w.heap.size) :=
    .inr ⟨w.heap.size, 1, #[.int .u8 255], rfl, rfl, Blk.new _ _ _, Nat.le_refl _, Nat.le_refl _, (by decide), rfl⟩
  have HR := Lib.hid R0
  have d1 : decide ((n : Int) < 253) = false := decide_eq_false (by omega); have d2 : decide ((n : Int) ≤ 65535) = false := decide_eq_false (by omega); have d3 : decide ((n : Int) ≤ 4294967295) = false := decide_eq_false (by omega)
  clear R0 hn h2
  go_enter Tryd.func30, Tryd.ntmps30
  go_wp2_with fail
  refine PL.out.mono ?_
  rintro e w1 ⟨p1, c1, o1, rfl, R1, ho1, hb1⟩
  have R2 := HR.out.keep (Keep.of_below (X := fun _ => False) hb1) (fun _ _ h => h)
  obtain ⟨_, _, e1, hy, _⟩ := R1.form
  cases e1
  rw [leB_length] at hy
  obtain ⟨v2, w2, o2, run2, R3, ho2, k2⟩ := row_appendL (P := Tryd.prog) 30 30 i0 (.int .u8 0) Tryd.underlying30 hi hz0 hz1 hz2 rfl R2 (p := p1) (c := c1) (ys := leB n 8) (by rw [leB_length]; exact hy) (by rw [leB_length]; decide)
  have hbw : Below w.heap.size w w1 := ((Below.refl w.heap.size w).alloc (Nat.le_refl _) _).trans (hb1.mono (by simp))
  have H2 := Lib.hid (own_step rfl hbw (fun g hg => by cases hg; exact Nat.le_refl _) ho2 k2)
  rw [leB_length] at run2
  obtain ⟨p2, c2, rfl, _⟩ := R3.form
  have HR3 := Lib.hid R3
  clear R1 R2 R3 ho1 hb1 hbw hy ho2 k2
  go_wp2_with (at_builtin; refine wpl_append rfl _ _ 30 rfl rfl rfl run2 ?_)
  go_ret
  have hl : ([255] ++ leB n 8).length = 8 + 1 := by rw [List.length_append, leB_length]; rfl
  have R4 := HR3.out
  rw [hl] at R4
  exact ⟨p2, c2, o2, congrArg (fun m => Ending.returned (.slice p2 m c2)) hl, R4, H2.out⟩
/-- Encode -/
theorem renc (n : Nat) (hn : n < 18446744073709551616) (w : World) : Calls Tryd.prog 30 #[.int .u64 (n : Int)] w fun e w' => ∃ p c o, e = .returned (.slice p (encS n).length c) ∧ Row w' 5 (.slice p (encS n).length c) (encS n) o ∧ (∀ g, o = some g → w.heap.size ≤ g) ∧ Below w.heap.size w w' := by
  by_cases h1 : n < 253
  · rw [encS_1 h1]; exact renc1 n h1 w
  · by_cases h2 : n ≤ 65535
    · rw [encS_3 h1 h2, List.length_cons, leB_length]; exact renc3 n hn h1 h2 w
    · by_cases h3 : n ≤ 4294967295
      · rw [encS_5 h1 h2 h3, List.length_cons, leB_length]; exact renc5 n hn h2 h3 w
      · rw [encS_9 h1 h2 h3, List.length_cons, leB_length]; exact renc9 n hn h3 w
end Go.Proofs.YtgedpgdefafofaaDoor
end
