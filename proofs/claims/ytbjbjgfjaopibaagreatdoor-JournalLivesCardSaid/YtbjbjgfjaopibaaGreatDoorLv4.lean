import Derived.Test.YtbjbjgfjaopibaaGreatDoorLv3
import Derived.Test.YtbjbjgfjaopibaaGreatDoorLv2
import Derived.Maps.OwnSet
import Derived.Test.YtbjbjgfjaopibaaGreatDoorRows
import Derived.ProofKit
import Derived.OpenShut
import Derived.ShutString
import Derived.WalkKit
import Derived.Laws.StructEq
import Derived.Test.YtbjbjgfjaopibaaGreatDoorLv1
import Derived.Deep.MidRow
import Derived.Laws.Rows
import Derived.WalkMore
import Derived.BigFrame
section
/- The journal's bytes, plainly: counts, texts, batches, frames. -/
namespace Go.Proofs.YtbjbjgfjaopibaaGreatDoor
open Go Go.RowKit
set_option linter.unusedSimpArgs false
set_option linter.unusedVariables false
set_option maxRecDepth 100000

/-- all are bytes -/
def Byt (xs : List Int) : Prop := ∀ y ∈ xs, 0 ≤ y ∧ y ≤ 255
theorem Byt.nil : Byt [] := fun y h => by cases h
theorem Byt.app {xs ys : List Int} (h : Byt xs) (k : Byt ys) : Byt (xs ++ ys) := fun y hy => by
  rcases List.mem_append.1 hy with h' | h'
  · exact h y h'
  · exact k y h'
theorem Byt.left {xs ys : List Int} (h : Byt (xs ++ ys)) : Byt xs := fun y hy => h y (List.mem_append_left _ hy)
theorem Byt.right {xs ys : List Int} (h : Byt (xs ++ ys)) : Byt ys := fun y hy => h y (List.mem_append_right _ hy)
theorem Byt.take {xs : List Int} (h : Byt xs) (k : Nat) : Byt (xs.take k) := fun y hy => h y (List.mem_of_mem_take hy)
theorem Byt.drop {xs : List Int} (h : Byt xs) (k : Nat) : Byt (xs.drop k) := fun y hy => h y (List.mem_of_mem_drop hy)
theorem leB_byt (n k : Nat) : Byt (leB n k) := fun y hy => by
  obtain ⟨i, _, rfl⟩ := List.mem_map.1 hy
  have : n / 2 ^ (8 * i) % 256 < 256 := Nat.mod_lt _ (by decide)
  omega
theorem pw256 (k : Nat) : 2 ^ (8 * k) = 256 ^ k := by rw [Nat.pow_mul]
theorem leN_leB (n : Nat) : ∀ k, leN (leB n k) = n % 256 ^ k
  | 0 => by simp [leB, leN, Nat.mod_one]
  | k + 1 => by
    rw [← leB_succ, leN_snoc, leN_leB n k, leB_length, Nat.mod_pow_succ, pw256, Int.toNat_natCast]
theorem leB_cons (n k : Nat) : leB n (k + 1) = ((n % 256 : Nat) : Int) :: leB (n / 256) k := by
  unfold leB
  rw [List.range_succ_eq_map, List.map_cons, List.map_map]
  congr 1
  · simp
  · refine List.map_congr_left fun i _ => ?_
    show ((n / 2 ^ (8 * (i + 1)) % 256 : Nat) : Int) = ((n / 256 / 2 ^ (8 * i) % 256 : Nat) : Int)
    rw [Nat.div_div_eq_div_mul, show 2 ^ (8 * (i + 1)) = 256 * 2 ^ (8 * i) from by rw [Nat.mul_succ, Nat.pow_add]; exact Nat.mul_comm _ _]
theorem leB_leN : ∀ ys : List Int, Byt ys → leB (leN ys) ys.length = ys
  | [], _ => rfl
  | x :: r, h => by
    have hx := h x (by simp)
    have ih := leB_leN r (fun y hy => h y (List.mem_cons_of_mem _ hy))
    rw [List.length_cons, leB_cons]
    have e1 : leN (x :: r) % 256 = x.toNat := by show (x.toNat + 256 * leN r) % 256 = _; omega
    have e2 : leN (x :: r) / 256 = leN r := by show (x.toNat + 256 * leN r) / 256 = _; omega
    rw [e1, e2, ih]
    congr 1; omega
theorem encS_byt (n : Nat) (h : n < 18446744073709551616) : Byt (encS n) := by
  unfold encS
  split
  · intro y hy; rw [List.mem_singleton.1 hy]; omega
  · split
    · intro y hy; rcases List.mem_cons.1 hy with rfl | hy
      · omega
      · exact leB_byt _ _ y hy
    · split
      · intro y hy; rcases List.mem_cons.1 hy with rfl | hy
        · omega
        · exact leB_byt _ _ y hy
      · intro y hy; rcases List.mem_cons.1 hy with rfl | hy
        · omega
        · exact leB_byt _ _ y hy
theorem encS_ne (n : Nat) : 1 ≤ (encS n).length ∧ (encS n).length ≤ 9 := by
  unfold encS; split
  · simp
  · split
    · simp [leB_length]
    · split <;> simp [leB_length]
/-- what was encoded is decoded -/
theorem dec_enc {n : Nat} (h : n < 18446744073709551616) (r : List Int) : decE (encS n ++ r) = 0 ∧ decN (encS n ++ r) = n ∧ decR (encS n ++ r) = r := by
  have big : ∀ (b : Int) (W : Nat), decW b = W → 0 < W → n < 256 ^ W → decL b ≤ n → decE (b :: (leB n W ++ r)) = 0 ∧ decN (b :: (leB n W ++ r)) = n ∧ decR (b :: (leB n W ++ r)) = r := fun b W hW h0 hn hl => by
    have ht : (leB n W ++ r).take W = leB n W := List.take_left' (leB_length n W)
    have hd : (leB n W ++ r).drop W = r := List.drop_left' (leB_length n W)
    have hN : leN ((leB n W ++ r).take W) = n := by rw [ht, leN_leB, Nat.mod_eq_of_lt hn]
    refine ⟨?_, ?_, ?_⟩
    · rw [decE_W hW h0, if_neg (by rw [List.length_append, leB_length]; omega), hN, if_neg (by omega)]
    · rw [decN_W hW h0, hN]
    · show (leB n W ++ r).drop (decW b) = r
      rw [hW, hd]
  by_cases h1 : n < 253
  · rw [encS_1 h1]
    have hW : decW (n : Int) = 0 := by unfold decW; rw [if_neg (by omega), if_neg (by omega), if_neg (by omega)]
    refine ⟨?_, ?_, ?_⟩
    · show (if decW (n : Int) = 0 then (0 : Int) else _) = 0
      rw [if_pos hW]
    · show (if decW (n : Int) = 0 then (n : Int).toNat else _) = n
      rw [if_pos hW]; omega
    · show List.drop (decW (n : Int)) r = r
      rw [hW]; rfl
  · by_cases h2 : n ≤ 65535
    · rw [encS_3 h1 h2]; exact big 253 2 rfl (by decide) (by omega) (by show 253 ≤ n; omega)
    · by_cases h3 : n ≤ 4294967295
      · rw [encS_5 h1 h2 h3]; exact big 254 4 rfl (by decide) (by omega) (by show 65536 ≤ n; omega)
      · rw [encS_9 h1 h2 h3]; exact big 255 8 rfl (by decide) (by omega) (by show 4294967296 ≤ n; omega)
/-- what is decoded was encoded so -/
theorem enc_dec {bs : List Int} (hb : Byt bs) (h : decE bs = 0) : bs = encS (decN bs) ++ decR bs ∧ decN bs < 18446744073709551616 := by
  match bs, hb, h with
  | [], _, h => exact absurd h (by decide)
  | b :: r, hb, h =>
    have h0 := hb b (by simp)
    have hr : Byt r := fun y hy => hb y (List.mem_cons_of_mem _ hy)
    have big : ∀ W : Nat, decW b = W → 0 < W → W ≤ 8 → (∀ n, decL b ≤ n → n < 256 ^ W → encS n = b :: leB n W) → b :: r = encS (decN (b :: r)) ++ decR (b :: r) ∧ decN (b :: r) < 18446744073709551616 := fun W hW hp h8 hE => by
      rw [decE_W hW hp] at h
      by_cases hl : r.length < W
      · rw [if_pos hl] at h; exact absurd h (by decide)
      rw [if_neg hl] at h
      by_cases hm : leN (r.take W) < decL b
      · rw [if_pos hm] at h; exact absurd h (by decide)
      have hlt := leN_take_lt r hr W (by omega)
      have h64 : (256 : Nat) ^ W ≤ 256 ^ 8 := Nat.pow_le_pow_right (by decide) h8
      have hN := decN_W (b := b) (r := r) hW hp
      rw [hN, hE _ (by omega) hlt]
      have ht : leB (leN (r.take W)) W = r.take W := by
        have := leB_leN (r.take W) (hr.take W)
        rwa [List.length_take, Nat.min_eq_left (by omega)] at this
      refine ⟨?_, by omega⟩
      rw [ht]
      show b :: r = b :: (r.take W ++ r.drop (decW b))
      rw [hW, List.take_append_drop]
    by_cases h1 : b = 253
    · subst h1; exact big 2 rfl (by decide) (by decide) (fun n h1 h2 => encS_3 (by have : 253 ≤ n := h1; omega) (by omega))
    · by_cases h2 : b = 254
      · subst h2; exact big 4 rfl (by decide) (by decide) (fun n h1 h2 => by have h3 : 65536 ≤ n := h1; exact encS_5 (by omega) (by omega) (by omega))
      · by_cases h3 : b = 255
        · subst h3; exact big 8 rfl (by decide) (by decide) (fun n h1 h2 => by have h3 : 4294967296 ≤ n := h1; exact encS_9 (by omega) (by omega) (by omega))
        · have hW : decW b = 0 := by unfold decW; rw [if_neg h1, if_neg h2, if_neg h3]
          have hN : decN (b :: r) = b.toNat := by show (if decW b = 0 then b.toNat else _) = _; rw [if_pos hW]
          have hR : decR (b :: r) = r := by show r.drop (decW b) = r; rw [hW]; rfl
          rw [hN, hR, encS_1 (by omega)]
          refine ⟨?_, by omega⟩
          show b :: r = ((b.toNat : Nat) : Int) :: r
          congr 1; omega
theorem enc_inj {n m : Nat} {r s : List Int} (hn : n < 18446744073709551616) (hm : m < 18446744073709551616) (h : encS n ++ r = encS m ++ s) : n = m ∧ r = s := by
  obtain ⟨_, a1, a2⟩ := dec_enc hn r
  obtain ⟨_, b1, b2⟩ := dec_enc hm s
  rw [h] at a1 a2
  exact ⟨a1.symm.trans b1, a2.symm.trans b2⟩
/-- a text: bytes with their count ahead -/
def txtB (z : List Int) : List Int := encS z.length ++ z
theorem txtB_len (z : List Int) : z.length < (txtB z).length ∧ (txtB z).length ≤ z.length + 9 := by
  have := encS_ne z.length
  unfold txtB; rw [List.length_append]; omega
theorem txtB_byt {z : List Int} (h : Byt z) (hl : z.length < 18446744073709551616) : Byt (txtB z) := (encS_byt _ hl).app h
def rtE (bs : List Int) (most : Nat) : Int := if decE bs = 0 then (if most < decN bs then 4 else if (decR bs).length < decN bs then 50 else 0) else decE bs
def rtX (bs : List Int) : List Int := (decR bs).take (decN bs)
def rtR (bs : List Int) : List Int := (decR bs).drop (decN bs)
theorem rt_enc {z r : List Int} {most : Nat} (hz : z.length ≤ most) (hl : z.length < 18446744073709551616) : rtE (txtB z ++ r) most = 0 ∧ rtX (txtB z ++ r) = z ∧ rtR (txtB z ++ r) = r := by
  obtain ⟨h1, h2, h3⟩ := dec_enc hl (z ++ r)
  unfold rtE rtX rtR txtB
  rw [List.append_assoc, h1, h2, h3, if_pos rfl, if_neg (by omega), if_neg (by rw [List.length_append]; omega)]
  exact ⟨rfl, List.take_left, List.drop_left⟩
theorem enc_rt {bs : List Int} {most : Nat} (hb : Byt bs) (h : rtE bs most = 0) : bs = txtB (rtX bs) ++ rtR bs ∧ (rtX bs).length ≤ most := by
  unfold rtE at h
  by_cases h0 : decE bs = 0
  · rw [if_pos h0] at h
    by_cases h1 : most < decN bs
    · rw [if_pos h1] at h; exact absurd h (by decide)
    rw [if_neg h1] at h
    by_cases h2 : (decR bs).length < decN bs
    · rw [if_pos h2] at h; exact absurd h (by decide)
    obtain ⟨e, _⟩ := enc_dec hb h0
    have hl : (rtX bs).length = decN bs := by unfold rtX; rw [List.length_take, Nat.min_eq_left (by omega)]
    refine ⟨?_, by omega⟩
    unfold txtB
    rw [hl, List.append_assoc, show rtX bs ++ rtR bs = decR bs from List.take_append_drop _ _]
    exact e
  · rw [if_neg h0] at h; exact absurd h h0
theorem txt_inj {y z r s : List Int} (hy : y.length < 18446744073709551616) (hz : z.length < 18446744073709551616) (h : txtB y ++ r = txtB z ++ s) : y = z ∧ r = s := by
  unfold txtB at h
  rw [List.append_assoc, List.append_assoc] at h
  obtain ⟨e1, e2⟩ := enc_inj hy hz h
  exact List.append_inj e2 e1
/-- keys: bytes of a string -/
abbrev Key := List UInt8
def kb (k : Key) : List Int := k.map fun c => ((c.toNat : Nat) : Int)
def kOf (z : List Int) : Key := z.map fun x => UInt8.ofNat x.toNat
theorem kb_len (k : Key) : (kb k).length = k.length := by simp [kb]
theorem kb_byt (k : Key) : Byt (kb k) := fun y hy => by
  obtain ⟨c, _, rfl⟩ := List.mem_map.1 hy
  have := c.toNat_lt; omega
theorem kOf_kb (k : Key) : kOf (kb k) = k := by
  unfold kOf kb
  rw [List.map_map]
  have : ((fun x : Int => UInt8.ofNat x.toNat) ∘ fun c : UInt8 => ((c.toNat : Nat) : Int)) = id := by
    funext c; simp
  rw [this, List.map_id]
theorem kb_kOf {z : List Int} (h : Byt z) : kb (kOf z) = z := by
  unfold kOf kb
  rw [List.map_map]
  conv => rhs; rw [← List.map_id z]
  refine List.map_congr_left fun x hx => ?_
  have := h x hx
  show (((UInt8.ofNat x.toNat).toNat : Nat) : Int) = x
  rw [UInt8.toNat_ofNat']
  omega
theorem kb_inj {a b : Key} (h : kb a = kb b) : a = b := by rw [← kOf_kb a, ← kOf_kb b, h]
structure BatD where
  puts : List (Key × List Int)
  dels : List Key
def putB (p : Key × List Int) : List Int := txtB (kb p.1) ++ txtB p.2
def delB (k : Key) : List Int := txtB (kb k)
def batB (x : BatD) : List Int := encS x.puts.length ++ (x.puts.flatMap putB ++ (encS x.dels.length ++ x.dels.flatMap delB))
def fineK (k : Key) : Bool := decide (0 < k.length) && decide (k.length ≤ 100)
def finePut (p : Key × List Int) : Bool := fineK p.1 && decide (p.2.length ≤ 60000)
theorem fineK_iff {k : Key} : fineK k = true ↔ 0 < k.length ∧ k.length ≤ 100 := by simp [fineK]
theorem finePut_iff {p : Key × List Int} : finePut p = true ↔ (0 < p.1.length ∧ p.1.length ≤ 100) ∧ p.2.length ≤ 60000 := by simp [finePut, fineK]
/-- a batch can be -/
structure CanB (x : BatD) : Prop where
  puts : x.puts.length ≤ 20000
  dels : x.dels.length ≤ 20000
  fineP : ∀ p ∈ x.puts, finePut p = true
  fineD : ∀ k ∈ x.dels, fineK k = true
  len : (batB x).length ≤ 1048576
/-- its values are bytes -/
def BytV (l : List (Key × List Int)) : Prop := ∀ p ∈ l, Byt p.2
/-- a list of things of one kind, read one by one -/
def rdMany {α : Type} (f : List Int → Option (α × List Int)) : Nat → List Int → Option (List α × List Int)
  | 0, bs => some ([], bs)
  | n + 1, bs => (f bs).bind fun q => (rdMany f n q.2).map fun t => (q.1 :: t.1, t.2)
def rdKey (bs : List Int) : Option (Key × List Int) := if rtE bs 100 = 0 ∧ rtX bs ≠ [] then some (kOf (rtX bs), rtR bs) else none
def rdPut (bs : List Int) : Option ((Key × List Int) × List Int) := (rdKey bs).bind fun q => if rtE q.2 60000 = 0 then some ((q.1, rtX q.2), rtR q.2) else none
def rdCnt (bs : List Int) : Option (Nat × List Int) := if decE bs = 0 ∧ decN bs ≤ 20000 then some (decN bs, decR bs) else none
def rdBat (bs : List Int) : Option BatD := (rdCnt bs).bind fun c => (rdMany rdPut c.1 c.2).bind fun p => (rdCnt p.2).bind fun d => (rdMany rdKey d.1 d.2).bind fun k => if k.2 = [] then some ⟨p.1, k.1⟩ else none
theorem rdKey_iff {bs : List Int} (hb : Byt bs) (k : Key) (r : List Int) : rdKey bs = some (k, r) ↔ fineK k = true ∧ bs = delB k ++ r := by
  constructor
  · intro h
    unfold rdKey at h
    split at h
    · rename_i h1
      cases h
      obtain ⟨e, hl⟩ := enc_rt hb h1.1
      have hx : Byt (rtX bs) := by
        have : Byt (txtB (rtX bs) ++ rtR bs) := by rw [← e]; exact hb
        exact (this.left).right
      have hlen : (kOf (rtX bs)).length = (rtX bs).length := by simp [kOf]
      refine ⟨fineK_iff.2 ⟨?_, by omega⟩, by unfold delB; rw [kb_kOf hx]; exact e⟩
      rw [hlen]
      cases hc : rtX bs with
      | nil => exact absurd hc h1.2
      | cons a t => simp
    · cases h
  · rintro ⟨hf, rfl⟩
    obtain ⟨h0, h1⟩ := fineK_iff.1 hf
    obtain ⟨e1, e2, e3⟩ := rt_enc (z := kb k) (r := r) (most := 100) (by rw [kb_len]; exact h1) (by rw [kb_len]; omega)
    unfold rdKey delB
    rw [e1, e2, e3, if_pos ⟨rfl, fun h => by
      have := congrArg List.length h
      rw [kb_len] at this; simp at this; subst this; simp at h0⟩, kOf_kb]
theorem rdPut_iff {bs : List Int} (hb : Byt bs) (p : Key × List Int) (r : List Int) : rdPut bs = some (p, r) ↔ finePut p = true ∧ Byt p.2 ∧ bs = putB p ++ r := by
  constructor
  · intro h
    unfold rdPut at h
    cases hk : rdKey bs with
    | none => rw [hk] at h; cases h
    | some q =>
      rw [hk] at h
      obtain ⟨k, s⟩ := q
      obtain ⟨h1, h2⟩ := (rdKey_iff hb k s).1 hk
      have hs : Byt s := by rw [h2] at hb; exact hb.right
      simp only [Option.bind_some] at h
      split at h
      · rename_i h3
        cases h
        obtain ⟨e, hl⟩ := enc_rt hs h3
        have hx : Byt (rtX s) := by
          have : Byt (txtB (rtX s) ++ rtR s) := by rw [← e]; exact hs
          exact (this.left).right
        refine ⟨finePut_iff.2 ⟨fineK_iff.1 h1, hl⟩, hx, ?_⟩
        unfold putB
        rw [List.append_assoc, ← e]; exact h2
      · cases h
  · rintro ⟨hf, hx, rfl⟩
    obtain ⟨h0, h1⟩ := finePut_iff.1 hf
    have hk := (rdKey_iff hb p.1 (txtB p.2 ++ r)).2 ⟨fineK_iff.2 h0, by unfold putB delB; rw [List.append_assoc]⟩
    obtain ⟨e1, e2, e3⟩ := rt_enc (z := p.2) (r := r) (most := 60000) h1 (by omega)
    unfold rdPut
    rw [hk]
    simp only [Option.bind_some]
    rw [if_pos e1, e2, e3]
theorem rdMany_iff {α : Type} {f : List Int → Option (α × List Int)} {ok : α → Prop} {enc : α → List Int} (hf : ∀ bs, Byt bs → ∀ a r, f bs = some (a, r) ↔ ok a ∧ bs = enc a ++ r) :
    ∀ (n : Nat) (bs : List Int), Byt bs → ∀ l r, rdMany f n bs = some (l, r) ↔ l.length = n ∧ (∀ a ∈ l, ok a) ∧ bs = l.flatMap enc ++ r
  | 0, bs, hb, l, r => by
    constructor
    · intro h; cases h; exact ⟨rfl, (fun a ha => by cases ha), rfl⟩
    · rintro ⟨h1, _, h3⟩
      obtain rfl := List.eq_nil_of_length_eq_zero h1
      rw [h3]; rfl
  | n + 1, bs, hb, l, r => by
    show ((f bs).bind fun q => (rdMany f n q.2).map fun t => (q.1 :: t.1, t.2)) = some (l, r) ↔ _
    constructor
    · intro h
      cases hq : f bs with
      | none => rw [hq] at h; cases h
      | some q =>
        obtain ⟨a, s⟩ := q
        rw [hq] at h
        obtain ⟨h1, h2⟩ := (hf bs hb a s).1 hq
        have hs : Byt s := by rw [h2] at hb; exact hb.right
        simp only [Option.bind_some] at h
        cases ht : rdMany f n s with
        | none => rw [ht] at h; cases h
        | some t =>
          obtain ⟨t1, t2⟩ := t
          rw [ht] at h
          cases h
          obtain ⟨k1, k2, k3⟩ := (rdMany_iff hf n s hs t1 t2).1 ht
          refine ⟨by simp [k1], fun b hb' => ?_, ?_⟩
          · rcases List.mem_cons.1 hb' with rfl | hb'
            · exact h1
            · exact k2 b hb'
          · rw [List.flatMap_cons, List.append_assoc, ← k3]; exact h2
    · rintro ⟨h1, h2, h3⟩
      match l, h1, h2, h3 with
      | a :: t, h1, h2, h3 =>
        rw [List.flatMap_cons, List.append_assoc] at h3
        have hq := (hf bs hb a (t.flatMap enc ++ r)).2 ⟨h2 a (by simp), h3⟩
        have hs : Byt (t.flatMap enc ++ r) := by rw [h3] at hb; exact hb.right
        rw [hq]
        simp only [Option.bind_some]
        rw [(rdMany_iff hf n _ hs t r).2 ⟨by simpa using h1, fun b hb' => h2 b (List.mem_cons_of_mem _ hb'), rfl⟩]
        rfl
theorem rdCnt_iff {bs : List Int} (hb : Byt bs) (n : Nat) (r : List Int) : rdCnt bs = some (n, r) ↔ n ≤ 20000 ∧ bs = encS n ++ r := by
  constructor
  · intro h
    unfold rdCnt at h
    split at h
    · rename_i h1; cases h; exact ⟨h1.2, (enc_dec hb h1.1).1⟩
    · cases h
  · rintro ⟨h1, rfl⟩
    obtain ⟨e1, e2, e3⟩ := dec_enc (n := n) (by omega) r
    unfold rdCnt
    rw [e1, e2, e3, if_pos ⟨rfl, h1⟩]
theorem rdBat_iff {bs : List Int} (hb : Byt bs) (hl : bs.length ≤ 1048576) (x : BatD) : rdBat bs = some x ↔ CanB x ∧ BytV x.puts ∧ batB x = bs := by
  have hp := rdMany_iff (f := rdPut) (ok := fun p => finePut p = true ∧ Byt p.2) (enc := putB) (fun bs hb a r => by rw [rdPut_iff hb]; exact and_assoc.symm)
  have hk := rdMany_iff (f := rdKey) (ok := fun k => fineK k = true) (enc := delB) (fun bs hb a r => rdKey_iff hb a r)
  constructor
  · intro h
    unfold rdBat at h
    cases h1 : rdCnt bs with
    | none => rw [h1] at h; cases h
    | some c =>
      obtain ⟨n, b1⟩ := c
      obtain ⟨n1, e1⟩ := (rdCnt_iff hb n b1).1 h1
      have hb1 : Byt b1 := by rw [e1] at hb; exact hb.right
      rw [h1] at h; simp only [Option.bind_some] at h
      cases h2 : rdMany rdPut n b1 with
      | none => rw [h2] at h; cases h
      | some p =>
        obtain ⟨ps, b2⟩ := p
        obtain ⟨p1, p2, e2⟩ := (hp n b1 hb1 ps b2).1 h2
        have hb2 : Byt b2 := by rw [e2] at hb1; exact hb1.right
        rw [h2] at h; simp only [Option.bind_some] at h
        cases h3 : rdCnt b2 with
        | none => rw [h3] at h; cases h
        | some d =>
          obtain ⟨m, b3⟩ := d
          obtain ⟨m1, e3⟩ := (rdCnt_iff hb2 m b3).1 h3
          have hb3 : Byt b3 := by rw [e3] at hb2; exact hb2.right
          rw [h3] at h; simp only [Option.bind_some] at h
          cases h4 : rdMany rdKey m b3 with
          | none => rw [h4] at h; cases h
          | some k =>
            obtain ⟨ks, b4⟩ := k
            obtain ⟨q1, q2, e4⟩ := (hk m b3 hb3 ks b4).1 h4
            rw [h4] at h; simp only [Option.bind_some] at h
            split at h
            · rename_i h5
              cases h
              have h5' : b4 = [] := h5
              have e : batB ⟨ps, ks⟩ = bs := by
                unfold batB
                simp only []
                rw [p1, q1, e1, e2, e3, e4, h5', List.append_nil]
              exact ⟨⟨by show ps.length ≤ 20000; omega, by show ks.length ≤ 20000; omega, fun p hp => (p2 p hp).1, q2, by rw [e]; exact hl⟩, fun p hp => (p2 p hp).2, e⟩
            · cases h
  · rintro ⟨hc, hv, rfl⟩
    obtain ⟨ps, ks⟩ := x
    unfold rdBat
    have e : batB ⟨ps, ks⟩ = encS ps.length ++ (ps.flatMap putB ++ (encS ks.length ++ ks.flatMap delB)) := rfl
    rw [e] at hb ⊢
    have hb1 := hb.right
    have hb2 := hb1.right
    have hb3 := hb2.right
    rw [(rdCnt_iff hb ps.length _).2 ⟨hc.puts, rfl⟩]
    simp only [Option.bind_some]
    rw [(hp ps.length _ hb1 ps _).2 ⟨rfl, fun p hp => ⟨hc.fineP p hp, hv p hp⟩, rfl⟩]
    simp only [Option.bind_some]
    rw [(rdCnt_iff hb2 ks.length _).2 ⟨hc.dels, rfl⟩]
    simp only [Option.bind_some]
    rw [(hk ks.length _ hb3 ks []).2 ⟨rfl, hc.fineD, by rw [List.append_nil]⟩]
    simp only [Option.bind_some, if_true]
theorem putB_byt {p : Key × List Int} (h : Byt p.2) (h1 : finePut p = true) : Byt (putB p) := by
  obtain ⟨⟨_, h2⟩, h3⟩ := finePut_iff.1 h1
  exact (txtB_byt (kb_byt _) (by rw [kb_len]; omega)).app (txtB_byt h (by omega))
theorem flat_byt {α : Type} {f : α → List Int} : ∀ {l : List α}, (∀ a ∈ l, Byt (f a)) → Byt (l.flatMap f)
  | [], _ => Byt.nil
  | a :: t, h => by rw [List.flatMap_cons]; exact (h a (by simp)).app (flat_byt fun b hb => h b (List.mem_cons_of_mem _ hb))
theorem batB_byt {x : BatD} (h : CanB x) (hv : BytV x.puts) : Byt (batB x) :=
  (encS_byt _ (by have := h.puts; omega)).app ((flat_byt fun p hp => putB_byt (hv p hp) (h.fineP p hp)).app ((encS_byt _ (by have := h.dels; omega)).app
    (flat_byt fun k hk => txtB_byt (kb_byt _) (by have := (fineK_iff.1 (h.fineD k hk)).2; rw [kb_len]; omega))))
theorem batB_inj {x y : BatD} (hx : CanB x) (hy : CanB y) (vx : BytV x.puts) (vy : BytV y.puts) (h : batB x = batB y) : x = y := by
  have h1 := (rdBat_iff (batB_byt hx vx) hx.len x).2 ⟨hx, vx, rfl⟩
  have h2 := (rdBat_iff (batB_byt hx vx) hx.len y).2 ⟨hy, vy, h.symm⟩
  rw [h1] at h2
  exact Option.some.inj h2
end Go.Proofs.YtbjbjgfjaopibaaGreatDoor
end

section
/- Maps keyed by int, told by a function. No program in sight. -/
namespace Go.Proofs.YtbjbjgfjaopibaaGreatDoor
open Go Go.RowKit Go.Maps Go.ChangeMaps

def RV (v : Value) : Option (DataW Value × List MemPlace) := some (.held v, [])
/-- block b is a map keyed by int of n entries; f tells what is at a key -/
def IMap (P : Program) (k : TypeId) (w : World) (b : Nat) (f : Int → Option Value) (n : Nat) : Prop :=
  ∃ D : DataW Value, w.ownsMap P k RV b n D ∧ Maps.size D = n ∧ ∀ x, (Lit.int .i64 x).wf = true → Maps.has D (.int .i64 x) = (f x).isSome ∧ ∀ v, f x = some v → ∀ z, D.atKey (.int .i64 x) z = .held v
section
variable {P : Program} {k : TypeId} {w w' : World} {b n : Nat} {f : Int → Option Value} {D : DataW Value}
theorem ownsMap_tight (h : w.ownsMap P k RV b n D) : w.ownsMap P k RV b (Maps.size D) D := by
  obtain ⟨es, clock, hb, F, hs, rfl⟩ := h
  exact ⟨es, clock, hb, F, by simp [Maps.size, length_sorted], rfl⟩
theorem IMap.made (w : World) (P : Program) (k : TypeId) : IMap P k (w.alloc (.map #[] 0)) w.heap.size (fun _ => none) 0 :=
  ⟨_, World.ownsMap_made w P k RV, rfl, fun x _ => ⟨rfl, fun v hv => by cases hv⟩⟩
theorem IMap.lt (h : IMap P k w b f n) : b < w.heap.size := by obtain ⟨D, h1, _⟩ := h; exact h1.lt
theorem IMap.keep {X : Nat → Prop} (h : IMap P k w b f n) (hk : Keep X w w') (hn : ¬ X b) : IMap P k w' b f n := by
  obtain ⟨D, h1, h2⟩ := h
  have hl := h1.lt
  obtain ⟨es, clock, hb, r⟩ := h1
  exact ⟨D, ⟨es, clock, (hk.block b hl hn).trans hb, r⟩, h2⟩
theorem IMap.drew (h : IMap P k w b f n) : IMap P k w.drew b f n := h
theorem RV_inv {v : Value} {d : DataW Value} {ps : List MemPlace} (h : RV v = some (d, ps)) : d = .held v := by
  simp [RV] at h; exact h.1.symm
theorem keyLit (hk : P.underlying k = some (.int .i64)) {x : Int} (hx : (Lit.int .i64 x).wf = true) : keyOf P k (.int .i64 x) = some (.int .i64 x) := keyOf_int_mk hk hx
theorem IMap.at (h : IMap P k w b f n) {x : Int} (hx : (Lit.int .i64 x).wf = true) : ∃ D : DataW Value, w.ownsMap P k RV b n D ∧ (∀ z, D.atKey (.int .i64 x) (.held z) = .held ((f x).getD z)) ∧ Maps.has D (.int .i64 x) = (f x).isSome := by
  obtain ⟨D, h1, h2, h3⟩ := h
  obtain ⟨e1, e2⟩ := h3 x hx
  refine ⟨D, h1, fun z => ?_, e1⟩
  cases hf : f x with
  | none =>
    rw [hf] at e1
    exact atKey_of_not_has e1 _
  | some v => exact e2 v hf _
/-- 'm[k]' -/
theorem IMap.look (h : IMap P k w b f n) {t e : TypeId} (hk : P.underlying k = some (.int .i64)) (ht : P.underlying t = some (.map k e)) {z : Value} (hz : (zeroValue e).run P w = .ok z w) {x : Int} (hx : (Lit.int .i64 x).wf = true) :
    (Instr.lookup t (.map (some b)) (.int .i64 x) false).run P w = .ok ((f x).getD z) w := by
  obtain ⟨D, h1, h2, _⟩ := h.at hx
  obtain ⟨v, ps, hrun, hv⟩ := h1.lookup (int_keyed hk) ht hz (R := RV) (zd := .held z) (zp := []) rfl (keyLit hk hx)
  have e1 := RV_inv hv
  rw [h2 z] at e1
  rw [hrun]
  injection e1 with e1
  rw [e1]
/-- 'v, ok := m[k]' -/
theorem IMap.lookOk (h : IMap P k w b f n) {t e : TypeId} (hk : P.underlying k = some (.int .i64)) (ht : P.underlying t = some (.map k e)) {z : Value} (hz : (zeroValue e).run P w = .ok z w) {x : Int} (hx : (Lit.int .i64 x).wf = true) :
    (Instr.lookup t (.map (some b)) (.int .i64 x) true).run P w = .ok (.tuple #[(f x).getD z, .bool (f x).isSome]) w := by
  obtain ⟨D, h1, h2, h3⟩ := h.at hx
  obtain ⟨v, ps, hrun, hv⟩ := h1.look_ok (int_keyed hk) ht hz (R := RV) (zd := .held z) (zp := []) rfl (keyLit hk hx)
  have e1 := RV_inv hv
  rw [h2 z] at e1
  rw [hrun, h3]
  injection e1 with e1
  rw [e1]
/-- 'len(m)' -/
theorem IMap.len (h : IMap P k w b f n) {t e : TypeId} (ht : P.underlying t = some (.map k e)) (ty : TypeId) : (Builtin.len_ #[t] ty #[.map (some b)]).run P w = .ok (.int .i64 (n : Int)) w := by
  obtain ⟨D, h1, h2, _⟩ := h
  rw [h1.len ht ty, h2]
theorem Keep.of_turned (h : w.mapTurned w' b) : Keep (fun k => k = b) w w' := Keep.of_grown h.grown (fun g hg => by cases hg; rfl)
theorem lit_ne {x y : Int} (h : y ≠ x) : (Lit.int .i64 y) ≠ (Lit.int .i64 x) := fun e => h (by injection e)
/-- 'm[k] = v' -/
theorem IMap.store (h : IMap P k w b f n) {t e : TypeId} (hk : P.underlying k = some (.int .i64)) (ht : P.underlying t = some (.map k e)) (hn : n < maxLen) {x : Int} (hx : (Lit.int .i64 x).wf = true) (v : Value) :
    ∃ w', (Instr.mapUpdate t (.map (some b)) (.int .i64 x) v).run P w = .ok () w' ∧ IMap P k w' b (fun y => if y = x then some v else f y) (if (f x).isSome then n else n + 1) ∧ Keep (fun k => k = b) w w' := by
  obtain ⟨D, h1, h2, h3⟩ := h
  obtain ⟨w1, hrun, r1, r2⟩ := h1.store (int_keyed hk) ht hn (R := RV) (d := .held v) (ps := []) (keyLit hk hx) rfl
  have hsz := size_put (k := .int .i64 x) (h1.tidy (int_keyed hk)) (.held v : DataW Value)
  rw [(h3 x hx).1, h2] at hsz
  refine ⟨w1, hrun, ⟨D.put (.int .i64 x) (.held v), ?_, hsz, fun y hy => ?_⟩, Keep.of_turned r2⟩
  · have := ownsMap_tight r1
    rw [hsz] at this
    exact this
  · by_cases hyx : y = x
    · subst hyx
      simp only [if_true]
      refine ⟨has_put_same h1.isMap (show WideAt.IsKeyLit (.int .i64 y) from trivial) _, fun v' hv' z => ?_⟩
      cases hv'
      exact atKey_put_same h1.isMap (show WideAt.IsKeyLit (.int .i64 y) from trivial) _ _
    · simp only [if_neg hyx]
      refine ⟨(has_put_other (lit_ne hyx) _).trans (h3 y hy).1, fun v' hv' z => (atKey_put_other (lit_ne hyx) _ _).trans ((h3 y hy).2 v' hv' z)⟩
/-- 'delete(m, k)' -/
theorem IMap.drop (h : IMap P k w b f n) {t e : TypeId} (hk : P.underlying k = some (.int .i64)) (ht : P.underlying t = some (.map k e)) {x : Int} (hx : (Lit.int .i64 x).wf = true) (ty : TypeId) :
    ∃ w', (Builtin.delete_ #[t, k] ty #[.map (some b), .int .i64 x]).run P w = .ok (.tuple #[]) w' ∧ IMap P k w' b (fun y => if y = x then none else f y) (if (f x).isSome then n - 1 else n) ∧ Keep (fun k => k = b) w w' := by
  obtain ⟨D, h1, h2, h3⟩ := h
  obtain ⟨w1, hrun, r1, r2⟩ := h1.drop (int_keyed hk) ht (keyLit hk hx) ty
  have hsz := size_del (k := .int .i64 x) (h1.tidy (int_keyed hk))
  rw [(h3 x hx).1, h2] at hsz
  have hsz2 : Maps.size (D.del (.int .i64 x)) = if (f x).isSome then n - 1 else n := by
    cases hf : (f x).isSome <;> rw [hf] at hsz <;> simp at hsz ⊢ <;> omega
  refine ⟨w1, hrun, ⟨D.del (.int .i64 x), ?_, hsz2, fun y hy => ?_⟩, Keep.of_turned r2⟩
  · have := ownsMap_tight r1
    rw [hsz2] at this
    exact this
  · by_cases hyx : y = x
    · subst hyx
      simp only [if_true]
      exact ⟨has_del_same, fun v' hv' => by cases hv'⟩
    · simp only [if_neg hyx]
      refine ⟨(has_del_other (lit_ne hyx)).trans (h3 y hy).1, fun v' hv' z => (atKey_del_other (lit_ne hyx) _).trans ((h3 y hy).2 v' hv' z)⟩
end
/-- 'build' at the list of a region's operations, once its run is known -/
theorem wpl_build {P : Program} {w : World} {ops : Array Oper} {rest : List Oper} {o : Oper} {a : Act} {Q : Exit → Act → World → Prop} (hgd : o.guard = none) (t : TypeId) (parts : Array (Nat × Operand)) (ho : o.op = .build t parts) {ps : Array (Nat × Value)} {v : Value}
    (hp : (parts.map fun (i, x) => (i, a.eval x)) = ps) (hrun : (Instr.build t ps).run P w = .ok v w) (h : wpList P ops Q rest (a.put o.dst v) w) : wpList P ops Q (o :: rest) a w := by
  refine wpList_plain hgd fun K hK' => ?_
  unfold Oper.wp
  subst hp
  simp only [execOp, ho, hrun, Sem.run_bind, Sem.run_pure, Result.andThen_ok]
  exact hK' _ _ h
theorem wpl_makeMap {P : Program} {w : World} {ops : Array Oper} {rest : List Oper} {o : Oper} {a : Act} {Q : Exit → Act → World → Prop} (hgd : o.guard = none) (t : TypeId) (ho : o.op = .makeMap t none)
    (h : wpList P ops Q rest (a.put o.dst (.map (some w.heap.size))) (w.alloc (.map #[] 0))) : wpList P ops Q (o :: rest) a w := by
  refine wpList_plain hgd fun K hK' => ?_
  have hr := @run_makeMap P t w
  unfold Oper.wp
  simp [execOp, ho, hr, Result.andThen]
  exact hK' _ _ h
theorem setCells_alloc (w : World) (t : TypeId) : ∀ (vs pre post : List Value), post.length = vs.length → (w.alloc (.cells (pre ++ post).toArray t)).setCells w.heap.size pre.length vs = w.alloc (.cells (pre ++ vs).toArray t)
  | [], pre, post, h => by
    obtain rfl : post = [] := List.length_eq_zero_iff.1 h
    rfl
  | v :: r, pre, post, h => by
    match post, h with
    | p :: post, h =>
      have e : (pre ++ p :: post).toArray.setIfInBounds pre.length v = ((pre ++ [v]) ++ post).toArray := by simp
      have ih := setCells_alloc w t r (pre ++ [v]) post (by simpa using h)
      rw [World.setCells, World.setCell_alloc_new, e]
      simpa using ih
/-- a whole value stored into a new block -/
theorem store_new {P : Program} (w : World) (t : TypeId) (zs vs : Array Value) (hs : zs.size = vs.size) (h1 : vs.all (·.oneCell') = true) :
    (storeCells ⟨w.heap.size, 0, none⟩ vs.toList).run P (w.alloc (.cells zs t)) = .ok () (w.alloc (.cells vs t)) := by
  have hb := Blk.new w zs t
  have h := run_storeCells_cells (P := P) w.heap.size 0 vs.toList 0 (w.alloc (.cells zs t)) (fun j hj => by rw [hb.cell]; simp at hj ⊢; omega) (fun j hj => hb.free _)
    (fun v hv => (Array.all_eq_true_iff_forall_mem.1 h1) v (by simpa using hv))
  rw [h]
  have e := setCells_alloc w t vs.toList [] zs.toList (by simp [hs])
  simpa using e
end Go.Proofs.YtbjbjgfjaopibaaGreatDoor
end

section
/- Opening a law's arguments: arrays of integers by value. -/
namespace Go.Proofs.YtbjbjgfjaopibaaGreatDoor
open Go.ChangeShapes Go.WideShapes Go.ChangeAt Go.RowKit

theorem Tryz.own : ownKnob Tryz.prog.godebug = none := by kernel_rfl
theorem Tryz.laidOut : laidOutB Tryz.prog = true := by kernel_rfl

section
variable {H : Type} {enc : TypeId × Value → H} {P : Program} {w : World} {base : Nat} {spare : Nat → Bool} {held : Bool}
/-- AN ARRAY OF INTEGERS BY VALUE -/
theorem open_arr {r : Reach} {b0 : Nat} {t e : TypeId} {n : Nat} {k : IntKind} {v : Value} {d : DataW H} {p : List MemPlace} (ht : P.underlying t = some (.array n e)) (he : P.underlying e = some (.int k))
    (hce : P.cellsOf e = 1) (hct : P.cellsOf t = n) (hv : Value.okWide P w r b0 t v) (h : DataW.Trod enc P w base spare held t v d p) :
    ∃ f : Nat → Int, v = .agg ((List.range n).map fun i => .int k (f i)).toArray ∧ ∀ i, i < n → (Lit.int k (f i)).wf = true := by
  obtain ⟨cs, rfl, hs, _⟩ : ∃ cs, v = .agg cs ∧ cs.size = P.cellsOf t ∧ Row.okWide P w r b0 t cs := by
    unfold Value.okWide at hv; rw [ht] at hv; exact hv
  obtain ⟨fuel, hf⟩ := h
  obtain ⟨xs, m, _, _, hl, hx, hi⟩ := DataW.trod_array ht hf
  rw [hce] at hi
  rw [hct] at hs
  have key : ∀ i, i < n → ∃ z, cs[i]? = some (.int k z) ∧ (Lit.int k z).wf = true := by
    intro i hlt
    have h1 := hi i hlt
    rw [Nat.mul_one] at h1
    obtain ⟨x, hxi⟩ : ∃ x, xs[i]? = some x := ⟨xs[i]'(by omega), List.getElem?_eq_getElem (by omega)⟩
    rw [hxi] at h1
    have hc : cs[i]? = some (cs[i]'(by omega)) := Array.getElem?_eq_getElem (by omega)
    have h2 : ((Value.agg cs).cells.toList.drop i).take 1 = [cs[i]'(by omega)] := by
      simp [Value.cells, List.take_one, hc]
    rw [h2] at h1
    obtain ⟨z, e0, _, wz⟩ := DataW.trod_int he h1
    refine ⟨z, ?_, wz⟩
    rw [hc]
    simp at e0
    rw [e0]
  refine ⟨fun i => match cs[i]? with | some (.int _ z) => z | _ => 0, ?_, ?_⟩
  · congr 1
    apply Array.ext
    · simp [hs]
    · intro i h1 h2
      obtain ⟨z, hz, _⟩ := key i (by omega)
      simp [hz]
      rw [Array.getElem?_eq_getElem h1] at hz
      exact Option.some.inj hz
  · intro i hlt
    obtain ⟨z, hz, wz⟩ := key i hlt
    simpa [hz] using wz
end

end Go.Proofs.YtbjbjgfjaopibaaGreatDoor
end

section
/- '==' on two arrays of integers. -/
namespace Go.Proofs.YtbjbjgfjaopibaaGreatDoor
open Go

theorem run_equalIn_ints {P : Program} (d : Nat) (t e : TypeId) (len : Nat) (k k' : IntKind) (xs ys : Array Value) (f g : Nat → Int) (w : World)
    (ht : P.underlying t = some (.array len e)) (he : P.underlying e = some (.int k')) (ha : ∀ w, (isAgg e).run P w = .ok false w) (hs : ∀ w, (Go.sizeOf e).run P w = .ok 1 w)
    (hx : ∀ i, i < len → xs[i]? = some (.int k (f i))) (hy : ∀ i, i < len → ys[i]? = some (.int k (g i))) :
    (Op.equalIn (d + 2) t (.agg xs) (.agg ys)).run P w = .ok ((List.range len).all fun i => f i == g i) w := by
  have px : ∀ i, i < len → ∀ w, (Go.part e xs i).run P w = .ok (.int k (f i)) w := by
    intro i hi w; simp [Go.part, Sem.run_bind, ha, hx i hi]
  have py : ∀ i, i < len → ∀ w, (Go.part e ys i).run P w = .ok (.int k (g i)) w := by
    intro i hi w; simp [Go.part, Sem.run_bind, ha, hy i hi]
  unfold Op.equalIn
  simp only [Sem.run_bind, run_underlying ht, Result.andThen_ok, hs, Nat.mul_one]
  rw [Std.Legacy.Range.forIn_eq_forIn_range']
  simp only [Std.Legacy.Range.size, Nat.sub_zero, Nat.add_sub_cancel, Nat.div_one]
  have key : ∀ (n s : Nat) (w : World), s + n ≤ len → Sem.run P (forIn (m := Sem) (List.range' s n) ((none, ()) : Option Bool × Unit) (fun i (_ : Option Bool × Unit) => do
            let __do_lift ← Go.part e xs i
            let __do_lift_1 ← Go.part e ys i
            let __do_lift ← Op.equalIn (d + 1) e __do_lift __do_lift_1
            if (!__do_lift) = true then pure (ForInStep.done (some false, ())) else pure (ForInStep.yield (none, ())))) w =
      .ok (if (List.range' s n).all fun i => f i == g i then (none, ()) else (some false, ())) w := by
    intro n
    induction n with
    | zero => intro s w _; simp
    | succ n ih =>
      intro s w h
      rw [List.range'_succ, List.forIn_cons, List.all_cons]
      simp only [Sem.run_bind, px s (by omega), py s (by omega), Result.andThen_ok, run_equalIn_int w d e k k' _ _ he]
      by_cases hfg : f s = g s
      · simp only [hfg, beq_self_eq_true, Bool.not_true, Bool.false_eq_true, if_false, Sem.run_pure, Result.andThen_ok, Bool.true_and]
        exact ih (s + 1) w (by omega)
      · simp [hfg]
  rw [key len 0 w (by omega), Result.andThen_ok, List.range_eq_range']
  cases (List.range' 0 len).all (fun i => f i == g i) <;> rfl

/-- '==' on two arrays of integers -/
theorem run_eql_ints {P : Program} (t e : TypeId) (len : Nat) (k k' : IntKind) (xs ys : Array Value) (f g : Nat → Int) (w : World)
    (ht : P.underlying t = some (.array len e)) (he : P.underlying e = some (.int k')) (ha : ∀ w, (isAgg e).run P w = .ok false w) (hs : ∀ w, (Go.sizeOf e).run P w = .ok 1 w)
    (hx : ∀ i, i < len → xs[i]? = some (.int k (f i))) (hy : ∀ i, i < len → ys[i]? = some (.int k (g i))) :
    (binOp .eql t (.agg xs) (.agg ys)).run P w = .ok (.bool ((List.range len).all fun i => f i == g i)) w := by
  rw [run_eql_struct, run_equalIn_ints 9998 t e len k k' xs ys f g w ht he ha hs hx hy]; rfl
theorem run_neq_ints {P : Program} (t e : TypeId) (len : Nat) (k k' : IntKind) (xs ys : Array Value) (f g : Nat → Int) (w : World)
    (ht : P.underlying t = some (.array len e)) (he : P.underlying e = some (.int k')) (ha : ∀ w, (isAgg e).run P w = .ok false w) (hs : ∀ w, (Go.sizeOf e).run P w = .ok 1 w)
    (hx : ∀ i, i < len → xs[i]? = some (.int k (f i))) (hy : ∀ i, i < len → ys[i]? = some (.int k (g i))) :
    (binOp .neq t (.agg xs) (.agg ys)).run P w = .ok (.bool (!((List.range len).all fun i => f i == g i))) w := by
  rw [run_neq_struct, run_equalIn_ints 9998 t e len k k' xs ys f g w ht he ha hs hx hy]; rfl
end Go.Proofs.YtbjbjgfjaopibaaGreatDoor
end

section
/- Hashes: arrays of 32 bytes, as numbers; whole arrays that the walk does not open. -/
namespace Go.Proofs.YtbjbjgfjaopibaaGreatDoor
open Go.RowKit

/-- byte k of n -/
def byt (n k : Nat) : Int := ((n / 2 ^ (8 * k) % 2 ^ 8 : Nat) : Int)
/-- the cells of api.Hash that is n -/
def hls (n : Nat) : List Value := (List.range 32).map fun k => Value.int .u8 (byt n k)
def hcs (n : Nat) : Array Value := (hls n).toArray
abbrev hv (n : Nat) : Value := .agg (hcs n)
theorem hcs_size (n : Nat) : (hcs n).size = 32 := by simp [hcs, hls]
theorem hcs_get (n k : Nat) (h : k < 32) : (hcs n)[k]? = some (.int .u8 (byt n k)) := by simp [hcs, hls, h]
theorem hls_length (n : Nat) : (hls n).length = 32 := by simp [hls]
theorem byt_range (n k : Nat) : 0 ≤ byt n k ∧ byt n k < 256 := by
  unfold byt
  have : n / 2 ^ (8 * k) % 2 ^ 8 < 2 ^ 8 := Nat.mod_lt _ (by decide)
  omega
theorem hcs_one (n : Nat) : (hcs n).all (·.oneCell') = true := by
  unfold hcs hls; rw [Array.all_eq_true]; intro i h; simp [Value.oneCell']
def bn (n k : Nat) : Nat := n / 2 ^ (8 * k) % 2 ^ 8
theorem byt_eq (n k : Nat) : byt n k = (bn n k : Int) := rfl
theorem bn_lt (n k : Nat) : bn n k < 2 ^ 8 := Nat.mod_lt _ (by decide)
theorem bn_bit (n k i : Nat) : (bn n k).testBit i = (decide (i < 8) && n.testBit (8 * k + i)) := by
  unfold bn; rw [Nat.testBit_mod_two_pow, Nat.testBit_div_two_pow, Nat.add_comm]
theorem bn_ext {a b : Nat} (ha : a < 2 ^ 256) (hb : b < 2 ^ 256) (h : ∀ k, k < 32 → bn a k = bn b k) : a = b := by
  apply Nat.eq_of_testBit_eq; intro i
  by_cases hi : i < 256
  · have := congrArg (fun x => x.testBit (i % 8)) (h (i / 8) (by omega))
    simp only [bn_bit] at this
    rw [decide_eq_true (show i % 8 < 8 from Nat.mod_lt _ (by decide))] at this
    simpa [show 8 * (i / 8) + i % 8 = i from by omega] using this
  · rw [Nat.testBit_lt_two_pow (Nat.lt_of_lt_of_le ha (Nat.pow_le_pow_right (by decide) (by omega))), Nat.testBit_lt_two_pow (Nat.lt_of_lt_of_le hb (Nat.pow_le_pow_right (by decide) (by omega)))]
theorem byt_mod (x k j : Nat) : byt (x % 2 ^ (8 * k)) j = if j < k then byt x j else 0 := by
  rw [byt_eq, byt_eq]
  have : bn (x % 2 ^ (8 * k)) j = if j < k then bn x j else 0 := by
    apply Nat.eq_of_testBit_eq; intro i
    rw [bn_bit, Nat.testBit_mod_two_pow]
    by_cases h : j < k
    · rw [if_pos h, bn_bit]
      by_cases hi : i < 8
      · rw [decide_eq_true (show 8 * j + i < 8 * k from by omega), Bool.true_and]
      · simp [hi]
    · rw [if_neg h, Nat.zero_testBit]
      by_cases hi : i < 8
      · rw [decide_eq_false (show ¬ 8 * j + i < 8 * k from by omega)]; simp
      · simp [hi]
  rw [this]; split <;> rfl
theorem hcs_ext {a b : Nat} (h : ∀ k, k < 32 → byt a k = byt b k) : hcs a = hcs b := by
  unfold hcs hls; congr 1; apply List.map_congr_left; intro k hk; rw [h k (List.mem_range.1 hk)]
theorem hcs_step (x k : Nat) : (hcs (x % 2 ^ (8 * k))).setIfInBounds k (.int .u8 (byt x k)) = hcs (x % 2 ^ (8 * (k + 1))) := by
  apply Array.ext
  · simp [hcs_size]
  · intro i h1 h2
    rw [hcs_size] at h2
    rw [Array.getElem_setIfInBounds]
    have e : ∀ n (h' : i < (hcs n).size), (hcs n)[i] = .int .u8 (byt n i) := by
      intro n h'; have := hcs_get n i h2; rw [Array.getElem?_eq_getElem h'] at this; exact Option.some.inj this
    by_cases hik : k = i
    · subst hik; rw [if_pos rfl, e, byt_mod, if_pos (by omega)]
    · rw [if_neg hik, e, e, byt_mod, byt_mod]
      by_cases h3 : i < k
      · rw [if_pos h3, if_pos (by omega)]
      · rw [if_neg h3, if_neg (by omega)]
    simpa [hcs_size] using h2
theorem hcs_zero : hcs 0 = (Array.replicate 32 (Value.int .u8 0)) := by
  apply Array.ext <;> simp [hcs, hls, byt]
/-- a part of b bits put into a number below it -/
theorem or_part (m i c b : Nat) (hm : m < 2 ^ i) (hc : c < 2 ^ b) (hb : i % 64 + b ≤ 64) :
    bits .or .u64 (wd m (i / 64)) (IntKind.u64.wrap ((c : Int) * 2 ^ (i % 64))) = wd (m + 2 ^ i * c) (i / 64) := by
  have hlt : c * 2 ^ (i % 64) < 2 ^ 64 := by
    have h1 : c * 2 ^ (i % 64) < 2 ^ b * 2 ^ (i % 64) := Nat.mul_lt_mul_of_pos_right hc (Nat.two_pow_pos _)
    rw [← Nat.pow_add] at h1
    exact Nat.lt_of_lt_of_le h1 (Nat.pow_le_pow_right (by decide) (by omega))
  rw [show (c : Int) * 2 ^ (i % 64) = ((c * 2 ^ (i % 64) : Nat) : Int) from by simp, u64_small _ hlt, wd_eq, or_u64 _ _ (wn_lt _ _) hlt, wd_eq]
  congr 1
  rw [Nat.add_comm m, Nat.two_pow_add_eq_or_of_lt hm, wn_or, Nat.or_comm]
  congr 1
  apply Nat.eq_of_testBit_eq; intro j
  rw [wn_bit, Nat.mul_comm c, Nat.testBit_two_pow_mul, Nat.testBit_two_pow_mul]
  by_cases hj : j < 64
  · rw [decide_eq_true hj, Bool.true_and]
    by_cases h2 : i % 64 ≤ j
    · rw [decide_eq_true h2, decide_eq_true (show i ≤ 64 * (i / 64) + j by omega)]
      congr 1; congr 1; omega
    · rw [decide_eq_false h2, decide_eq_false (show ¬ i ≤ 64 * (i / 64) + j by omega)]; simp
  · rw [decide_eq_false hj, Bool.false_and]
    have : c.testBit (j - i % 64) = false := Nat.testBit_lt_two_pow (Nat.lt_of_lt_of_le hc (Nat.pow_le_pow_right (by decide) (by omega)))
    rw [this]; simp
theorem wd_part_far (m i c b k : Nat) (hm : m < 2 ^ i) (hc : c < 2 ^ b) (hb : i % 64 + b ≤ 64) (hk : k ≠ i / 64) : wd (m + 2 ^ i * c) k = wd m k := by
  rw [wd_eq, wd_eq]
  congr 1
  rw [Nat.add_comm m, Nat.two_pow_add_eq_or_of_lt hm, wn_or]
  have : wn (2 ^ i * c) k = 0 := by
    apply Nat.eq_of_testBit_eq; intro j
    rw [wn_bit, Nat.testBit_two_pow_mul, Nat.zero_testBit]
    by_cases hj : j < 64
    · by_cases h2 : i ≤ 64 * k + j
      · have : c.testBit (64 * k + j - i) = false := Nat.testBit_lt_two_pow (Nat.lt_of_lt_of_le hc (Nat.pow_le_pow_right (by decide) (by omega)))
        rw [this]; simp
      · rw [decide_eq_false h2]; simp
    · rw [decide_eq_false hj]; simp
  rw [this, Nat.zero_or]
theorem wcs_part (m i c b : Nat) (hi : i < 256) (hm : m < 2 ^ i) (hc : c < 2 ^ b) (hb : i % 64 + b ≤ 64) : (wcs m).setIfInBounds (i / 64) (.int .u64 (wd (m + 2 ^ i * c) (i / 64))) = wcs (m + 2 ^ i * c) := by
  have far := fun k => wd_part_far m i c b k hm hc hb
  rcases (by omega : i / 64 = 0 ∨ i / 64 = 1 ∨ i / 64 = 2 ∨ i / 64 = 3) with h | h | h | h <;> rw [h] at far ⊢
  · rw [wcs, wcs, far 1 (by decide), far 2 (by decide), far 3 (by decide)]; rfl
  · rw [wcs, wcs, far 0 (by decide), far 2 (by decide), far 3 (by decide)]; rfl
  · rw [wcs, wcs, far 0 (by decide), far 1 (by decide), far 3 (by decide)]; rfl
  · rw [wcs, wcs, far 0 (by decide), far 1 (by decide), far 2 (by decide)]; rfl
/-- byte k of n out of its word -/
theorem byt_wd (n k : Nat) : (wd n (k / 8) / 2 ^ (8 * (k % 8))) % 256 = byt n k := by
  have e : wd n (k / 8) / 2 ^ (8 * (k % 8)) = ((wn n (k / 8) / 2 ^ (8 * (k % 8)) : Nat) : Int) := by
    rw [wd_eq, Int.natCast_ediv, Int.natCast_pow]; rfl
  rw [e, byt_eq]
  have : wn n (k / 8) / 2 ^ (8 * (k % 8)) % 2 ^ 8 = bn n k := by
    apply Nat.eq_of_testBit_eq; intro i
    rw [Nat.testBit_mod_two_pow, Nat.testBit_div_two_pow, wn_bit, bn_bit]
    by_cases hi : i < 8
    · rw [decide_eq_true hi, decide_eq_true (show i + 8 * (k % 8) < 64 by omega), Bool.true_and, Bool.true_and, Bool.true_and]
      congr 1; omega
    · rw [decide_eq_false hi]; simp
  omega
theorem i64_small8 (n : Int) (h0 : 0 ≤ n) (h1 : n < 2 ^ 8) : IntKind.i64.wrap n = n := by rw [IntKind.wrap_i64]; omega
theorem and7 (k : Nat) (h : k < 32) : bits .and .i64 (k : Int) 7 = (k : Int) % 8 :=
  bits_mask .i64 8 (by decide) i64_small8 3 (by decide) (k : Int) (by omega) (by omega)
theorem byt_wd' (n k : Nat) : (wd n (k / 8) / 2 ^ (k % 8 * 8)) % 256 = byt n k := by rw [Nat.mul_comm]; exact byt_wd n k

theorem mod_byte (h k : Nat) : h % 2 ^ (8 * (k + 1)) = h % 2 ^ (8 * k) + 2 ^ (8 * k) * bn h k := by
  unfold bn
  rw [show 2 ^ (8 * (k + 1)) = 2 ^ (8 * k) * 2 ^ 8 from Nat.pow_add 2 (8 * k) 8, Nat.mod_mul]
theorem of_or (h k : Nat) : bits .or .u64 (wd (h % 2 ^ (8 * k)) (k / 8)) (IntKind.u64.wrap (byt h k * 2 ^ (8 * (k % 8)))) = wd (h % 2 ^ (8 * (k + 1))) (k / 8) := by
  have := or_part (h % 2 ^ (8 * k)) (8 * k) (bn h k) 8 (Nat.mod_lt _ (Nat.two_pow_pos _)) (bn_lt h k) (by omega)
  rw [← mod_byte, show 8 * k / 64 = k / 8 from by omega, show 8 * k % 64 = 8 * (k % 8) from by omega] at this
  exact this
theorem of_or' (h k : Nat) : bits .or .u64 (wd (h % 2 ^ (8 * k)) (k / 8)) (IntKind.u64.wrap (byt h k * 2 ^ (k % 8 * 8))) = wd (h % 2 ^ (8 * (k + 1))) (k / 8) := by
  rw [Nat.mul_comm (k % 8) 8]; exact of_or h k
theorem of_cells (h k : Nat) (hk : k < 32) : (wcs (h % 2 ^ (8 * k))).setIfInBounds (k / 8) (.int .u64 (wd (h % 2 ^ (8 * (k + 1))) (k / 8))) = wcs (h % 2 ^ (8 * (k + 1))) := by
  have := wcs_part (h % 2 ^ (8 * k)) (8 * k) (bn h k) 8 (by omega) (Nat.mod_lt _ (Nat.two_pow_pos _)) (bn_lt h k) (by omega)
  rw [← mod_byte, show 8 * k / 64 = k / 8 from by omega] at this
  exact this

/-- an element of an array by value -/
theorem run_index_arr {P : Program} (t e : TypeId) (n i : Nat) (cs : Array Value) (v : Value) (w : World) (h : P.underlying t = some (.array n e)) (ha : ∀ w, (isAgg e).run P w = .ok false w) (hs : ∀ w, (Go.sizeOf e).run P w = .ok 1 w)
    (hi : i < n) (hv : cs[i]? = some v) : (Instr.index t (.agg cs) (.int .i64 (i : Int))).run P w = .ok v w := by
  have h1 : 0 ≤ (i : Int) ∧ (i : Int) < n := by omega
  unfold Instr.index
  simp only [asIntOf, Sem.run_bind, Sem.run_pure, Result.andThen_ok, run_underlying h, if_pos h1, Go.part, ha, hs, Int.toNat_natCast, Nat.mul_one, hv, Bool.false_eq_true, if_false]
/-! ### whole arrays -/
theorem Blk.setCells {g : Nat} {t : TypeId} : ∀ (vs : List Value) (o : Nat) (w : World) (pre post : List Value), pre.length = o → post.length = vs.length → Blk w g (pre ++ post).toArray t → Blk (w.setCells g o vs) g (pre ++ vs).toArray t
  | [], _, _, _, post, _, h2, h => by
    have : post = [] := List.length_eq_zero_iff.1 h2
    subst this; exact h
  | v :: r, o, w, pre, post, h1, h2, h => by
    match post, h2, h with
    | p :: post, h2, h =>
      have e : (pre ++ p :: post).toArray.setIfInBounds o v = ((pre ++ [v]) ++ post).toArray := by
        subst h1; simp
      have h3 := h.set o v
      rw [e] at h3
      have := Blk.setCells r (o + 1) (w.setCell ⟨g, o, none⟩ v) (pre ++ [v]) post (by simp [h1]) (by simpa using h2) h3
      simpa [World.setCells] using this
theorem Blk.setAll {w : World} {g : Nat} {c : Array Value} {t : TypeId} (h : Blk w g c t) (vs : Array Value) (hs : c.size = vs.size) : Blk (w.setCells g 0 vs.toList) g vs t := by
  have := Blk.setCells (g := g) (t := t) vs.toList 0 w [] c.toList rfl (by simp [hs]) (by simpa using h)
  simpa using this
theorem heap_setCells {g k : Nat} (h : k ≠ g) : ∀ (vs : List Value) (o : Nat) (w : World), (w.setCells g o vs).heap[k]? = w.heap[k]?
  | [], _, _ => rfl
  | v :: r, o, w => (heap_setCells h r (o + 1) _).trans (Below.heap_setCell w ⟨g, o, none⟩ v k h)
theorem size_setCells {g : Nat} : ∀ (vs : List Value) (o : Nat) (w : World), (w.setCells g o vs).heap.size = w.heap.size
  | [], _, _ => rfl
  | _ :: r, o, _ => (size_setCells r (o + 1) _).trans (by simp [World.setCell])
theorem below_setCells {B g : Nat} {a : World} (hg : B ≤ g) : ∀ (vs : List Value) (o : Nat) (w : World), Below B a w → Below B a (w.setCells g o vs)
  | [], _, _, h => h
  | v :: r, o, _, h => below_setCells hg r (o + 1) _ (h.setCell (p := ⟨g, o, none⟩) hg v)
theorem Blk.there {w : World} {g : Nat} {c : Array Value} {t : TypeId} (h : Blk w g c t) : w.there g 0 c.size := fun j hj => by
  rw [h.cell, h.free]; simp; omega
/-- A WHOLE ARRAY IS READ out of a variable. -/
theorem wpl_load {P : Program} {ops : Array Oper} {rest : List Oper} {o : Oper} {a : Act} {w : World} {Q : Exit → Act → World → Prop} (hgd : o.guard = none) (ty : TypeId) (x : Operand) (ho : o.op = .load ty x)
    {g n : Nat} {e t : TypeId} {cs : Array Value} (hx : a.eval x = .pointer (some ⟨g, 0, none⟩)) (hg : Blk w g cs t)
    (hu : P.underlying ty = some (.array n e)) (hi : (P.info? ty).map (·.size) = some cs.size)
    (h : wpList P ops Q rest (a.put o.dst (.agg cs)) w) : wpList P ops Q (o :: rest) a w :=
  wpList_load_row hgd ty x ho g hx t cs (0, 0) (.array n e) hg hu rfl hi h
/-- A WHOLE ARRAY IS STORED into a variable. -/
theorem wpl_store {P : Program} {ops : Array Oper} {rest : List Oper} {o : Oper} {a : Act} {w : World} {Q : Exit → Act → World → Prop} (hgd : o.guard = none) (ty : TypeId) (x y : Operand) (ho : o.op = .store ty x y)
    {g : Nat} {t : TypeId} {cs vs : Array Value} (hx : a.eval x = .pointer (some ⟨g, 0, none⟩)) (hy : a.eval y = .agg vs) (hg : Blk w g cs t) (hs : cs.size = vs.size)
    (hi : (P.info? ty).map (·.size) = some vs.size) (h1 : vs.all (·.oneCell') = true)
    (h : wpList P ops Q rest (a.put o.dst undef) (w.setCells g 0 vs.toList)) : wpList P ops Q (o :: rest) a w :=
  wpList_store_mid hgd ty x y ho g 0 vs hx hy (hs ▸ hg.there) hi h1 h
theorem St.set {B : Nat} {W w : World} {b : Nat} {c : Array Value} {t : TypeId} {l : List (Nat × Array Value × TypeId)} (h : St B W w ((b, c, t) :: l)) (hB : B ≤ b) (hne : ∀ x ∈ l, x.1 ≠ b) (o : Nat) (v : Value) :
    St B W (w.setCell ⟨b, o, none⟩ v) ((b, c.setIfInBounds o v, t) :: l) :=
  ⟨h.below.setCell hB v, fun x hx => by
    rcases List.mem_cons.1 hx with rfl | hx
    · exact (h.at (b := b) (c := c) (t := t) (by simp)).set o v
    · exact (h.live x (List.mem_cons_of_mem _ hx)).setFar (a := ⟨b, o, none⟩) (hne x hx) v⟩
theorem St.setAll {B : Nat} {W w : World} {b : Nat} {c : Array Value} {t : TypeId} {l : List (Nat × Array Value × TypeId)} (h : St B W w ((b, c, t) :: l)) (hB : B ≤ b) (hne : ∀ x ∈ l, x.1 ≠ b) (vs : Array Value) (hs : c.size = vs.size) :
    St B W (w.setCells b 0 vs.toList) ((b, vs, t) :: l) :=
  ⟨below_setCells hB _ _ _ h.below, fun x hx => by
    rcases List.mem_cons.1 hx with rfl | hx
    · exact (h.at (b := b) (c := c) (t := t) (by simp)).setAll vs hs
    · exact (heap_setCells (hne x hx) _ _ _).trans (h.live x (List.mem_cons_of_mem _ hx))⟩
theorem St.perm {B : Nat} {W w : World} {l l' : List (Nat × Array Value × TypeId)} (h : St B W w l) (hs : l' ⊆ l) : St B W w l' := ⟨h.below, fun x hx => h.live x (hs hx)⟩
theorem St.new3' (w : World) (c0 c1 c2 : Array Value) (t0 t1 t2 : TypeId) : St w.heap.size w (((w.alloc (.cells c0 t0)).alloc (.cells c1 t1)).alloc (.cells c2 t2)) [(w.heap.size + 1 + 1, c2, t2), (w.heap.size + 1, c1, t1), (w.heap.size, c0, t0)] := by
  have h := (St.new2 w c0 c1 t0 t1).new c2 t2
  rw [show ((w.alloc (.cells c0 t0)).alloc (.cells c1 t1)).heap.size = w.heap.size + 1 + 1 from by simp] at h
  exact h
/-- A RESULT THAT IS A WHOLE ARRAY -/
theorem results_blk {P : Program} {fn : Func} {p : Tmp} {ty : TypeId} (h : fn.results = #[.cell p ty]) (tmps : Array Value) (w : World) {g n : Nat} {e t : TypeId} {cs : Array Value}
    (hp : tmps.getD p undef = .pointer (some ⟨g, 0, none⟩)) (hg : Blk w g cs t) (hu : P.underlying ty = some (.array n e)) (hi : (P.info? ty).map (·.size) = some cs.size) :
    (results fn tmps).run P w = .ok (.agg cs) w := results_cell_row h tmps w g t cs (0, 0) (.array n e) hp hg hu rfl hi
end Go.Proofs.YtbjbjgfjaopibaaGreatDoor
end

section
/- '==' and '!=' on hashes; a law's argument of type api.Hash; no number of four words in sight. -/
namespace Go.Proofs.YtbjbjgfjaopibaaGreatDoor
open Go Go.ChangeShapes Go.WideShapes Go.ChangeAt Go.RowKit

theorem isAgg_u8 (w : World) : (isAgg 5).run Tryz.prog w = .ok false w := by kernel_rfl
theorem sizeOf_u8 (w : World) : (Go.sizeOf 5).run Tryz.prog w = .ok 1 w := by kernel_rfl
theorem byt_all (a b : Nat) (ha : a < W256) (hb : b < W256) : ((List.range 32).all fun i => byt a i == byt b i) = (a == b) := by
  rw [W256_eq] at *
  rw [Bool.eq_iff_iff, List.all_eq_true, beq_iff_eq]
  constructor
  · intro h
    refine bn_ext ha hb fun k hk => ?_
    have := h k (List.mem_range.2 hk)
    rw [beq_iff_eq, byt_eq, byt_eq] at this
    omega
  · rintro rfl; simp
theorem heql (a b : Nat) (ha : a < W256) (hb : b < W256) (w : World) : (binOp .eql 104 (hv a) (hv b)).run Tryz.prog w = .ok (.bool (a == b)) w := by
  rw [← byt_all a b ha hb]
  exact run_eql_ints 104 5 32 .u8 .u8 (hcs a) (hcs b) (byt a) (byt b) w Tryz.underlying104 Tryz.underlying5 isAgg_u8 sizeOf_u8 (fun i hi => hcs_get a i hi) (fun i hi => hcs_get b i hi)
theorem hneq (a b : Nat) (ha : a < W256) (hb : b < W256) (w : World) : (binOp .neq 104 (hv a) (hv b)).run Tryz.prog w = .ok (.bool (a != b)) w := by
  rw [show (a != b) = !(a == b) from rfl, ← byt_all a b ha hb]
  exact run_neq_ints 104 5 32 .u8 .u8 (hcs a) (hcs b) (byt a) (byt b) w Tryz.underlying104 Tryz.underlying5 isAgg_u8 sizeOf_u8 (fun i hi => hcs_get a i hi) (fun i hi => hcs_get b i hi)
/-- 32 bytes are a number -/
def hnum (f : Nat → Int) : Nat → Nat
  | 0 => 0
  | n + 1 => hnum f n + 2 ^ (8 * n) * (f n).toNat
theorem hnum_lt (f : Nat → Int) : ∀ n, (∀ i, i < n → 0 ≤ f i ∧ f i ≤ 255) → hnum f n < 2 ^ (8 * n)
  | 0, _ => by simp [hnum]
  | n + 1, h => by
    have ih := hnum_lt f n (fun i hi => h i (by omega))
    obtain ⟨h0, h1⟩ := h n (by omega)
    have hf : (f n).toNat ≤ 255 := by omega
    have := Nat.mul_le_mul_left (2 ^ (8 * n)) hf
    rw [show 2 ^ (8 * (n + 1)) = 2 ^ (8 * n) * 2 ^ 8 from Nat.pow_add 2 (8 * n) 8]
    unfold hnum
    omega
theorem hnum_byte (f : Nat → Int) : ∀ n, (∀ i, i < n → 0 ≤ f i ∧ f i ≤ 255) → ∀ i, i < n → bn (hnum f n) i = (f i).toNat
  | 0, _, _, hi => by omega
  | n + 1, h, i, hi => by
    have hlt := hnum_lt f n (fun i hi => h i (by omega))
    obtain ⟨h0, h1⟩ := h n (by omega)
    unfold hnum
    by_cases hin : i < n
    · rw [← hnum_byte f n (fun i hi => h i (by omega)) i hin]
      unfold bn
      rw [show 2 ^ (8 * n) * (f n).toNat = 2 ^ (8 * i) * (2 ^ (8 * (n - i)) * (f n).toNat) from by rw [← Nat.mul_assoc, ← Nat.pow_add]; congr 2; omega]
      rw [Nat.add_mul_div_left _ _ (Nat.two_pow_pos _)]
      rw [show 2 ^ (8 * (n - i)) * (f n).toNat = 2 ^ 8 * (2 ^ (8 * (n - i) - 8) * (f n).toNat) from by rw [← Nat.mul_assoc, ← Nat.pow_add]; congr 2; omega]
      rw [Nat.add_mul_mod_self_left]
    · obtain rfl : i = n := by omega
      unfold bn
      rw [Nat.add_mul_div_left _ _ (Nat.two_pow_pos _), Nat.div_eq_of_lt hlt, Nat.zero_add]
      omega
theorem hls_of (f : Nat → Int) (h : ∀ i, i < 32 → 0 ≤ f i ∧ f i ≤ 255) : ((List.range 32).map fun i => Value.int .u8 (f i)) = hls (hnum f 32) := by
  unfold hls
  apply List.map_congr_left
  intro i hi
  rw [byt_eq, hnum_byte f 32 h i (List.mem_range.1 hi)]
  have := h i (List.mem_range.1 hi)
  congr 1; omega
set_option maxRecDepth 100000 in
theorem open_hash {H : Type} {enc : TypeId × Value → H} {w : World} {base b0 : Nat} {spare : Nat → Bool} {held : Bool} {r : Reach} {v : Value} {d : DataW H} {p : List MemPlace}
    (hv : Value.okWide Tryz.prog w r b0 104 v) (h : DataW.Trod enc Tryz.prog w base spare held 104 v d p) : ∃ n, n < W256 ∧ v = .agg (hcs n) := by
  obtain ⟨f, rfl, hw⟩ := open_arr (n := 32) (k := .u8) Tryz.underlying104 Tryz.underlying5 (by kernel_rfl) (by kernel_rfl) hv h
  have b : ∀ i, i < 32 → 0 ≤ f i ∧ f i ≤ 255 := fun i hi => by first | exact bounds_u8 (hw i hi) | (have := hw i hi; simp [Lit.wf, IntKind.min, IntKind.max] at this; omega)
  refine ⟨hnum f 32, hnum_lt f 32 b, ?_⟩
  unfold hcs
  rw [← hls_of f b]
end Go.Proofs.YtbjbjgfjaopibaaGreatDoor
end

section
/- Small things that many walks want. -/
namespace Go.Proofs.YtbjbjgfjaopibaaGreatDoor
open Go Go.RowKit
set_option linter.unusedSimpArgs false
set_option linter.unusedVariables false
set_option maxRecDepth 100000

theorem two_blocks (w : World) (c1 c2 : Array Value) (t1 t2 : TypeId) : Blk ((w.alloc (.cells c1 t1)).alloc (.cells c2 t2)) w.heap.size c1 t1 ∧ Blk ((w.alloc (.cells c1 t1)).alloc (.cells c2 t2)) (w.heap.size + 1) c2 t2 ∧ Below w.heap.size w ((w.alloc (.cells c1 t1)).alloc (.cells c2 t2)) := by
  have b1 := Blk.new w c1 t1
  have k := (Below.refl (w.alloc (.cells c1 t1)).heap.size (w.alloc (.cells c1 t1))).alloc (Nat.le_refl _) (.cells c2 t2)
  have hs : (w.alloc (.cells c1 t1)).heap.size = w.heap.size + 1 := by simp
  refine ⟨b1.beyond k, ?_, ((Below.refl w.heap.size w).alloc (Nat.le_refl _) _).alloc (by rw [hs]; omega) _⟩
  have := Blk.new (w.alloc (.cells c1 t1)) c2 t2
  rw [hs] at this; exact this
theorem u8info' : (Tryz.prog.info? 5).map (fun i => (i.zero, i.size, i.bytes)) = some (some (.int .u8 0), 1, 1) := by kernel_rfl
end Go.Proofs.YtbjbjgfjaopibaaGreatDoor
end

section
/- The filter of nothing (awake). -/
namespace Go.Proofs.YtbjbjgfjaopibaaGreatDoor
open Go Go.RowKit
set_option linter.unusedSimpArgs false
set_option linter.unusedVariables false
set_option maxRecDepth 100000

theorem enc_small (n : Nat) (hn : n < 253) (w : World) : Calls Tryz.prog 64 #[.int .u64 (n : Int)] w fun e w' => e = .returned (.slice (some ⟨w.heap.size, 0, none⟩) 1 1) ∧ w' = w.alloc (.cells #[.int .u8 (n : Int)] 5) := by
  have h1 : (n : Int) < 253 := by omega
  go_enter Tryz.func64, Tryz.ntmps64
  go_wp2
  go_ret
  exact ⟨rfl, rfl⟩
end Go.Proofs.YtbjbjgfjaopibaaGreatDoor
end
