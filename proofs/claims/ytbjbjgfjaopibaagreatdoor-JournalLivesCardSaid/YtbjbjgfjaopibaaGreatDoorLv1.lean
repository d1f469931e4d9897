import Derived.WalkKit
import Derived.Laws.BitsLemmas
import Derived.WalkSpells
import Derived.WalkLawsBesides
import Derived.Deep.RegionHeld3
import Derived.Deep.DeepFit
import Derived.Deep.DeepCutAuto
import Derived.Lib.Hide
import Derived.Shelf.Bytes.SlSmallAll
import Derived.ArgAppend
import Derived.Deep.AppendSrc
import Derived.Deep.Upon
section
/- SipHash-2-4, plainly: words of 64 bits. No program in sight. -/
namespace Go.Proofs.YtbjbjgfjaopibaaGreatDoor
open Go
set_option linter.unusedVariables false

abbrev B64 := BitVec 64
def lv (x : B64) : Int := (x.toNat : Int)
theorem lv_nonneg (x : B64) : 0 ≤ lv x := Int.natCast_nonneg _
theorem lv_lt (x : B64) : lv x < 18446744073709551616 := by have := x.isLt; unfold lv; omega
theorem lv_inj {a b : B64} (h : lv a = lv b) : a = b := by unfold lv at h; exact BitVec.eq_of_toNat_eq (by omega)
theorem lv_wrap (a : B64) : IntKind.u64.wrap (lv a) = lv a := by rw [IntKind.wrap_u64]; have := lv_nonneg a; have := lv_lt a; omega
theorem lv_add (a b : B64) : IntKind.u64.wrap (lv a + lv b) = lv (a + b) := by
  rw [IntKind.wrap_u64]; unfold lv; rw [BitVec.toNat_add]; omega
theorem ofInt_lv (a : B64) : BitVec.ofInt 64 (lv a) = a := by unfold lv; rw [BitVec.ofInt_natCast, BitVec.ofNat_toNat]; simp
theorem lv_xor (a b : B64) : bits .xor .u64 (lv a) (lv b) = lv (a ^^^ b) := by
  show IntKind.u64.wrap ((BitVec.ofInt 64 (lv a) ^^^ BitVec.ofInt 64 (lv b)).toNat : Int) = _
  rw [ofInt_lv, ofInt_lv]; exact lv_wrap (a ^^^ b)
theorem lv_or (a b : B64) : bits .or .u64 (lv a) (lv b) = lv (a ||| b) := by
  show IntKind.u64.wrap ((BitVec.ofInt 64 (lv a) ||| BitVec.ofInt 64 (lv b)).toNat : Int) = _
  rw [ofInt_lv, ofInt_lv]; exact lv_wrap (a ||| b)
theorem lv_and (a b : B64) : bits .and .u64 (lv a) (lv b) = lv (a &&& b) := by
  show IntKind.u64.wrap ((BitVec.ofInt 64 (lv a) &&& BitVec.ofInt 64 (lv b)).toNat : Int) = _
  rw [ofInt_lv, ofInt_lv]; exact lv_wrap (a &&& b)
theorem lv_shr (a : B64) (n : Nat) : lv a / 2 ^ n = lv (a >>> n) := by
  unfold lv
  rw [BitVec.toNat_ushiftRight, Nat.shiftRight_eq_div_pow]
  simp
theorem lv_shl (a : B64) (n : Nat) : IntKind.u64.wrap (lv a * 2 ^ n) = lv (a <<< n) := by
  rw [IntKind.wrap_u64]; unfold lv
  rw [BitVec.toNat_shiftLeft, Nat.shiftLeft_eq]
  simp
def rol (x : B64) (n : Nat) : B64 := x.rotateLeft n
theorem rol_or (x : B64) (n : Nat) (h : n < 64) : (x <<< n) ||| (x >>> (64 - n)) = rol x n := by
  unfold rol BitVec.rotateLeft BitVec.rotateLeftAux
  rw [Nat.mod_eq_of_lt h]
/-- a number below 2^64, as a word -/
def bw (n : Nat) : B64 := BitVec.ofNat 64 n
theorem lv_bw (n : Nat) (h : n < 18446744073709551616) : lv (bw n) = (n : Int) := by
  unfold lv bw; rw [BitVec.toNat_ofNat, Nat.mod_eq_of_lt (by omega)]
/-- the four words -/
structure Sip where
  a : B64
  b : B64
  c : B64
  d : B64
def Sip.cells (s : Sip) : Array Value := #[.int .u64 (lv s.a), .int .u64 (lv s.b), .int .u64 (lv s.c), .int .u64 (lv s.d)]
def sipRound (s : Sip) : Sip :=
  let a1 := s.a + s.b
  let c1 := s.c + s.d
  let b1 := rol s.b 13 ^^^ a1
  let d1 := rol s.d 16 ^^^ c1
  let a2 := rol a1 32 + d1
  let c2 := c1 + b1
  ⟨a2, rol b1 17 ^^^ c2, rol c2 32, rol d1 21 ^^^ a2⟩
def sipTake (s : Sip) (m : B64) : Sip :=
  let t := sipRound (sipRound ⟨s.a, s.b, s.c, s.d ^^^ m⟩)
  ⟨t.a ^^^ m, t.b, t.c, t.d⟩
/-- bytes are a number, the lowest first -/
def leN : List Int → Nat
  | [] => 0
  | x :: r => x.toNat + 256 * leN r
theorem leN_lt : ∀ (l : List Int), (∀ x ∈ l, 0 ≤ x ∧ x ≤ 255) → leN l < 256 ^ l.length
  | [], _ => by simp [leN]
  | x :: r, h => by
    have ih := leN_lt r (fun y hy => h y (List.mem_cons_of_mem _ hy))
    have h0 := h x (List.mem_cons_self ..)
    unfold leN
    rw [List.length_cons, Nat.pow_succ]
    omega
theorem leN_snoc (l : List Int) (x : Int) : leN (l ++ [x]) = leN l + 256 ^ l.length * x.toNat := by
  induction l with
  | nil => simp [leN]
  | cons y r ih =>
    show y.toNat + 256 * leN (r ++ [x]) = y.toNat + 256 * leN r + 256 ^ (r.length + 1) * x.toNat
    rw [ih, Nat.pow_succ, Nat.mul_add, ← Nat.mul_assoc, Nat.mul_comm 256 (256 ^ r.length)]; omega
def sipInit (k0 k1 : B64) : Sip := ⟨k0 ^^^ 0x736f6d6570736575#64, k1 ^^^ 0x646f72616e646f6d#64, k0 ^^^ 0x6c7967656e657261#64, k1 ^^^ 0x7465646279746573#64⟩
/-- so many words of eight bytes are taken -/
def sipWords (s : Sip) (bs : List Int) : Nat → Sip
  | 0 => s
  | n + 1 => sipTake (sipWords s bs n) (bw (leN ((bs.drop (8 * n)).take 8)))
/-- the last word: what is left, and how many bytes there were -/
def sipLast (bs : List Int) : B64 := bw (bs.length % 256 * 2 ^ 56 + leN (bs.drop (8 * (bs.length / 8))))
def sipEnd (s : Sip) : B64 :=
  let t := sipRound (sipRound (sipRound (sipRound ⟨s.a, s.b, s.c ^^^ 0xff#64, s.d⟩)))
  t.a ^^^ t.b ^^^ t.c ^^^ t.d
def sipS (k0 k1 : B64) (bs : List Int) : B64 := sipEnd (sipTake (sipWords (sipInit k0 k1) bs (bs.length / 8)) (sipLast bs))
end Go.Proofs.YtbjbjgfjaopibaaGreatDoor
end

section
/- Plain facts on numbers of four words of 64 bits: no program in sight. -/
namespace Go.Proofs.YtbjbjgfjaopibaaGreatDoor
open Go.RowKit

/-- 2 to the 256, under a name that the walk does not open -/
def W256 : Nat := 2 ^ 256
theorem W256_eq : W256 = 2 ^ 256 := rfl
/-- word k of n -/
def wd (n k : Nat) : Int := ((n / 2 ^ (64 * k) % 2 ^ 64 : Nat) : Int)
/-- the value of api.Wide that is n -/
abbrev wv (n : Nat) : Value := .agg #[.int .u64 (wd n 0), .int .u64 (wd n 1), .int .u64 (wd n 2), .int .u64 (wd n 3)]
/-- the cells -/
abbrev wcs (n : Nat) : Array Value := #[.int .u64 (wd n 0), .int .u64 (wd n 1), .int .u64 (wd n 2), .int .u64 (wd n 3)]
/-- bit i of n -/
def bt (n i : Nat) : Int := ((n / 2 ^ i % 2 : Nat) : Int)

theorem wd_get (n k : Nat) (h : k < 4) : ([.int .u64 (wd n 0), .int .u64 (wd n 1), .int .u64 (wd n 2), .int .u64 (wd n 3)] : List Value)[k]? = some (.int .u64 (wd n k)) := by
  rcases (by omega : k = 0 ∨ k = 1 ∨ k = 2 ∨ k = 3) with h | h | h | h <;> subst h <;> rfl
theorem wd_at (n k : Nat) (h : k < 4) : ∀ h' : k < [Value.int .u64 (wd n 0), .int .u64 (wd n 1), .int .u64 (wd n 2), .int .u64 (wd n 3)].length, ([Value.int .u64 (wd n 0), .int .u64 (wd n 1), .int .u64 (wd n 2), .int .u64 (wd n 3)] : List Value)[k]'h' = .int .u64 (wd n k) := by
  rcases (by omega : k = 0 ∨ k = 1 ∨ k = 2 ∨ k = 3) with h | h | h | h <;> subst h <;> intro _ <;> rfl
theorem wd_range (n k : Nat) : 0 ≤ wd n k ∧ wd n k < 18446744073709551616 := by
  unfold wd
  have : n / 2 ^ (64 * k) % 2 ^ 64 < 2 ^ 64 := Nat.mod_lt _ (by decide)
  omega
theorem bt_range (n i : Nat) : 0 ≤ bt n i ∧ bt n i ≤ 1 := by unfold bt; omega
theorem bt_eq (n i : Nat) : bt n i = ((n.testBit i).toNat : Int) := by unfold bt; rw [Nat.toNat_testBit]

theorem and1 (x : Nat) (h : x < 2 ^ 64) : bits .and .u64 (x : Int) 1 = ((x % 2 : Nat) : Int) := by
  have := u64_and_nat x 1 h (by omega)
  rw [nat_mask1] at this; exact this
theorem bit_wd (n i : Nat) : bits .and .u64 (wd n (i / 64) / 2 ^ (i % 64)) 1 = bt n i := by
  have e : wd n (i / 64) / 2 ^ (i % 64) = ((n / 2 ^ (64 * (i / 64)) % 2 ^ 64 / 2 ^ (i % 64) : Nat) : Int) := by
    unfold wd; rw [Int.natCast_ediv, Int.natCast_pow]; rfl
  have hl : n / 2 ^ (64 * (i / 64)) % 2 ^ 64 / 2 ^ (i % 64) < 2 ^ 64 := Nat.lt_of_le_of_lt (Nat.div_le_self _ _) (Nat.mod_lt _ (by decide))
  rw [e, and1 _ hl, bt_eq, ← Nat.toNat_testBit, Nat.testBit_mod_two_pow, Nat.testBit_div_two_pow, decide_eq_true (show i % 64 < 64 from Nat.mod_lt _ (by decide)), Bool.true_and]
  congr 3; omega
/-- word k of n, as a natural number -/
def wn (n k : Nat) : Nat := n / 2 ^ (64 * k) % 2 ^ 64
theorem wd_eq (n k : Nat) : wd n k = (wn n k : Int) := rfl
theorem wn_lt (n k : Nat) : wn n k < 2 ^ 64 := Nat.mod_lt _ (by decide)
theorem wn_bit (n k i : Nat) : (wn n k).testBit i = (decide (i < 64) && n.testBit (64 * k + i)) := by
  unfold wn; rw [Nat.testBit_mod_two_pow, Nat.testBit_div_two_pow, Nat.add_comm]
theorem wn_or (x y k : Nat) : wn (x ||| y) k = wn x k ||| wn y k := by
  apply Nat.eq_of_testBit_eq; intro i
  rw [wn_bit, Nat.testBit_or, Nat.testBit_or, wn_bit, wn_bit]
  cases decide (i < 64) <;> simp
theorem wn_pow (i k : Nat) : wn (2 ^ i) k = if k = i / 64 then 2 ^ (i % 64) else 0 := by
  apply Nat.eq_of_testBit_eq; intro j
  rw [wn_bit, Nat.testBit_two_pow]
  by_cases h : k = i / 64
  · rw [if_pos h, Nat.testBit_two_pow, Bool.eq_iff_iff]; simp; omega
  · rw [if_neg h, Nat.zero_testBit, Bool.eq_iff_iff]; simp; omega
theorem wn_zero (k : Nat) : wn 0 k = 0 := by simp [wn]
/-- numbers of four words are their words -/
theorem wn_ext {a b : Nat} (ha : a < 2 ^ 256) (hb : b < 2 ^ 256) (h : ∀ k, k < 4 → wn a k = wn b k) : a = b := by
  apply Nat.eq_of_testBit_eq; intro i
  by_cases hi : i < 256
  · have := congrArg (fun x => x.testBit (i % 64)) (h (i / 64) (by omega))
    simp only [wn_bit] at this
    rw [decide_eq_true (show i % 64 < 64 from Nat.mod_lt _ (by decide))] at this
    simpa [show 64 * (i / 64) + i % 64 = i from by omega] using this
  · rw [Nat.testBit_lt_two_pow (Nat.lt_of_lt_of_le ha (Nat.pow_le_pow_right (by decide) (by omega))), Nat.testBit_lt_two_pow (Nat.lt_of_lt_of_le hb (Nat.pow_le_pow_right (by decide) (by omega)))]
theorem or_u64 (x y : Nat) (hx : x < 2 ^ 64) (hy : y < 2 ^ 64) : bits .or .u64 (x : Int) (y : Int) = ((x ||| y : Nat) : Int) := u64_or_nat x y hx hy
theorem u64_small (x : Nat) (h : x < 2 ^ 64) : IntKind.u64.wrap (x : Int) = (x : Int) := by rw [IntKind.wrap_u64]; omega
/-- the bit i put into a number below it -/
theorem or_bit (m i c : Nat) (hm : m < 2 ^ i) (hc : c ≤ 1) :
    bits .or .u64 (wd m (i / 64)) (IntKind.u64.wrap ((c : Int) * 2 ^ (i % 64))) = wd (m + 2 ^ i * c) (i / 64) := by
  have h64 : i % 64 < 64 := Nat.mod_lt _ (by decide)
  have hp : 2 ^ (i % 64) < 2 ^ 64 := Nat.pow_lt_pow_right (by decide) h64
  rcases (by omega : c = 0 ∨ c = 1) with rfl | rfl
  · rw [show IntKind.u64.wrap (((0 : Nat) : Int) * 2 ^ (i % 64)) = ((0 : Nat) : Int) from by simp [IntKind.wrap_u64], wd_eq, or_u64 _ _ (wn_lt _ _) (by decide)]
    simp [wd_eq]
  · rw [show ((1 : Nat) : Int) * 2 ^ (i % 64) = ((2 ^ (i % 64) : Nat) : Int) from by simp, u64_small _ hp, wd_eq, or_u64 _ _ (wn_lt _ _) hp, wd_eq, Nat.add_comm m, Nat.two_pow_add_eq_or_of_lt hm, Nat.mul_one, wn_or, wn_pow, if_pos rfl, Nat.or_comm]
theorem wd_far (m i c k : Nat) (hm : m < 2 ^ i) (hc : c ≤ 1) (hk : k ≠ i / 64) : wd (m + 2 ^ i * c) k = wd m k := by
  rcases (by omega : c = 0 ∨ c = 1) with rfl | rfl
  · simp
  · rw [wd_eq, wd_eq, Nat.add_comm m, Nat.two_pow_add_eq_or_of_lt hm, Nat.mul_one, wn_or, wn_pow, if_neg hk, Nat.zero_or]
theorem wc_bit (m i c : Nat) (hi : i < 256) (hm : m < 2 ^ i) (hc : c ≤ 1) : (wcs m).setIfInBounds (i / 64) (.int .u64 (wd (m + 2 ^ i * c) (i / 64))) = wcs (m + 2 ^ i * c) := by
  have far := fun k => wd_far m i c k hm hc
  rcases (by omega : i / 64 = 0 ∨ i / 64 = 1 ∨ i / 64 = 2 ∨ i / 64 = 3) with h | h | h | h <;> rw [h] at far ⊢
  · rw [wcs, wcs, far 1 (by decide), far 2 (by decide), far 3 (by decide)]; rfl
  · rw [wcs, wcs, far 0 (by decide), far 2 (by decide), far 3 (by decide)]; rfl
  · rw [wcs, wcs, far 0 (by decide), far 1 (by decide), far 3 (by decide)]; rfl
  · rw [wcs, wcs, far 0 (by decide), far 1 (by decide), far 2 (by decide)]; rfl
theorem wc_zero : wcs 0 = #[.int .u64 0, .int .u64 0, .int .u64 0, .int .u64 0] := by simp [wd]

/-- the carry behind k bits -/
def ac (a b k : Nat) : Int := (((a % 2 ^ k + b % 2 ^ k) / 2 ^ k : Nat) : Int)
/-- bit k of both and the carry -/
def sb (a b k : Nat) : Int := bt a k + bt b k + ac a b k
theorem ac_range (a b k : Nat) : 0 ≤ ac a b k ∧ ac a b k ≤ 1 := by
  unfold ac
  have h1 := Nat.mod_lt a (Nat.two_pow_pos k)
  have h2 := Nat.mod_lt b (Nat.two_pow_pos k)
  have : (a % 2 ^ k + b % 2 ^ k) / 2 ^ k < 2 := by rw [Nat.div_lt_iff_lt_mul (Nat.two_pow_pos k)]; omega
  generalize (a % 2 ^ k + b % 2 ^ k) / 2 ^ k = z at *
  omega
theorem ac_zero (a b : Nat) : ac a b 0 = 0 := by simp [ac, Nat.mod_one]
theorem sb_wrap (a b k : Nat) : IntKind.u64.wrap (IntKind.u64.wrap (bt a k + bt b k) + ac a b k) = sb a b k := by
  obtain ⟨h1, h2⟩ := bt_range a k
  obtain ⟨h3, h4⟩ := bt_range b k
  obtain ⟨h5, h6⟩ := ac_range a b k
  unfold sb; rw [IntKind.wrap_u64, IntKind.wrap_u64]; omega
theorem sb_nat (a b k : Nat) : sb a b k = ((a / 2 ^ k % 2 + b / 2 ^ k % 2 + (a % 2 ^ k + b % 2 ^ k) / 2 ^ k : Nat) : Int) := rfl
theorem div_add_pow (a b k : Nat) : (a + b) / 2 ^ k = a / 2 ^ k + b / 2 ^ k + (a % 2 ^ k + b % 2 ^ k) / 2 ^ k := by
  have ha := Nat.div_add_mod a (2 ^ k)
  have hb := Nat.div_add_mod b (2 ^ k)
  have : a + b = (a % 2 ^ k + b % 2 ^ k) + 2 ^ k * (a / 2 ^ k + b / 2 ^ k) := by rw [Nat.mul_add]; omega
  rw [this, Nat.add_mul_div_left _ _ (Nat.two_pow_pos k), Nat.add_comm]
theorem sb_bit (a b k : Nat) : bits .and .u64 (sb a b k) 1 = bt (a + b) k := by
  have h := ac_range a b k
  unfold ac at h
  rw [sb_nat, and1 _ (by generalize (a % 2 ^ k + b % 2 ^ k) / 2 ^ k = z at *; omega)]
  unfold bt
  rw [div_add_pow a b]
  generalize (a % 2 ^ k + b % 2 ^ k) / 2 ^ k = z at *
  congr 1; omega
theorem sb_half (a b k : Nat) : sb a b k / 2 = ac a b (k + 1) := by
  rw [sb_nat]; unfold ac
  rw [Nat.mod_pow_succ, Nat.mod_pow_succ, Nat.pow_succ, ← Nat.div_div_eq_div_mul]
  rw [show a % 2 ^ k + 2 ^ k * (a / 2 ^ k % 2) + (b % 2 ^ k + 2 ^ k * (b / 2 ^ k % 2)) = (a % 2 ^ k + b % 2 ^ k) + 2 ^ k * (a / 2 ^ k % 2 + b / 2 ^ k % 2) from by rw [Nat.mul_add]; omega]
  rw [Nat.add_mul_div_left _ _ (Nat.two_pow_pos k)]
  generalize (a % 2 ^ k + b % 2 ^ k) / 2 ^ k = z
  omega
theorem ac_end (a b : Nat) (ha : a < W256) (hb : b < W256) : (ac a b 256 == 1) = decide (W256 ≤ a + b) := by
  rw [W256_eq] at ha hb
  unfold ac
  rw [Nat.mod_eq_of_lt ha, Nat.mod_eq_of_lt hb, Bool.eq_iff_iff, W256_eq]
  simp only [beq_iff_eq, decide_eq_true_eq]
  omega
theorem ac_end' (a b : Nat) (ha : a < W256) (hb : b < W256) : (0 < ac a b 256) = (W256 ≤ a + b) := by
  rw [W256_eq] at ha hb
  unfold ac
  rw [Nat.mod_eq_of_lt ha, Nat.mod_eq_of_lt hb, W256_eq]
  apply propext
  omega
theorem ao_succ (a b k : Nat) : (a + b) % 2 ^ (k + 1) = (a + b) % 2 ^ k + 2 ^ k * ((a + b) / 2 ^ k % 2) := Nat.mod_pow_succ

theorem wd_mod (x k j : Nat) : wd (x % 2 ^ (64 * k)) j = if j < k then wd x j else 0 := by
  rw [wd_eq, wd_eq]
  have : wn (x % 2 ^ (64 * k)) j = if j < k then wn x j else 0 := by
    apply Nat.eq_of_testBit_eq; intro i
    rw [wn_bit, Nat.testBit_mod_two_pow]
    by_cases h : j < k
    · rw [if_pos h, wn_bit]
      by_cases hi : i < 64
      · rw [decide_eq_true (show 64 * j + i < 64 * k from by omega), Bool.true_and]
      · simp [hi]
    · rw [if_neg h, Nat.zero_testBit]
      by_cases hi : i < 64
      · rw [decide_eq_false (show ¬ 64 * j + i < 64 * k from by omega)]; simp
      · simp [hi]
  rw [this]; split <;> rfl
theorem wc_step (x k : Nat) (h : k < 4) : (wcs (x % 2 ^ (64 * k))).setIfInBounds k (.int .u64 (wd x k)) = wcs (x % 2 ^ (64 * (k + 1))) := by
  rcases (by omega : k = 0 ∨ k = 1 ∨ k = 2 ∨ k = 3) with h | h | h | h <;> subst h <;> simp only [wcs, wd_mod] <;> rfl
theorem wn_add (a b k : Nat) : (wn a k + wn b k + (a % 2 ^ (64 * k) + b % 2 ^ (64 * k)) / 2 ^ (64 * k)) % 2 ^ 64 = wn (a + b) k := by
  unfold wn; rw [div_add_pow a b]; omega
theorem carry_abs (a b P Q : Nat) (hP : 0 < P) : (a / P % Q + b / P % Q + (a % P + b % P) / P) / Q = (a % (P * Q) + b % (P * Q)) / (P * Q) := by
  rw [Nat.mod_mul, Nat.mod_mul, ← Nat.div_div_eq_div_mul]
  rw [show a % P + P * (a / P % Q) + (b % P + P * (b / P % Q)) = (a % P + b % P) + P * (a / P % Q + b / P % Q) from by rw [Nat.mul_add]; omega]
  rw [Nat.add_mul_div_left _ _ hP]
  congr 1; omega
theorem wn_carry (a b k : Nat) : (wn a k + wn b k + (a % 2 ^ (64 * k) + b % 2 ^ (64 * k)) / 2 ^ (64 * k)) / 2 ^ 64 = (a % 2 ^ (64 * (k + 1)) + b % 2 ^ (64 * (k + 1))) / 2 ^ (64 * (k + 1)) := by
  have h := carry_abs a b (2 ^ (64 * k)) (2 ^ 64) (Nat.two_pow_pos _)
  rw [show 2 ^ (64 * k) * 2 ^ 64 = 2 ^ (64 * (k + 1)) from (Nat.pow_add 2 (64 * k) 64).symm] at h
  exact h

/-- the difference, as the walk has it -/
theorem wn_sub (a b k : Nat) (hb : b < 2 ^ 256) (hk : k < 4) :
    (wn a k + 2 ^ 64 - wn b k - ((a + 2 ^ 256 - b) % 2 ^ (64 * k) + b % 2 ^ (64 * k)) / 2 ^ (64 * k)) % 2 ^ 64 = wn (a + 2 ^ 256 - b) k ∧
    (if wn a k < wn b k + ((a + 2 ^ 256 - b) % 2 ^ (64 * k) + b % 2 ^ (64 * k)) / 2 ^ (64 * k) then 1 else 0) =
      ((a + 2 ^ 256 - b) % 2 ^ (64 * (k + 1)) + b % 2 ^ (64 * (k + 1))) / 2 ^ (64 * (k + 1)) := by
  have hD : (a + 2 ^ 256 - b) + b = a + 2 ^ 256 := by omega
  have h1 := wn_add (a + 2 ^ 256 - b) b k
  have h2 := wn_carry (a + 2 ^ 256 - b) b k
  have h3 : wn (a + 2 ^ 256) k = wn a k := by
    unfold wn
    rw [show (2 : Nat) ^ 256 = 2 ^ (64 * k) * 2 ^ (256 - 64 * k) from by rw [← Nat.pow_add]; congr 1; omega, Nat.add_mul_div_left _ _ (Nat.two_pow_pos _)]
    rw [show (2 : Nat) ^ (256 - 64 * k) = 2 ^ 64 * 2 ^ (192 - 64 * k) from by rw [← Nat.pow_add]; congr 1; omega, Nat.add_mul_mod_self_left]
  rw [hD, h3] at h1
  rw [← h2]
  have hr := ac_range (a + 2 ^ 256 - b) b (64 * k)
  unfold ac at hr
  have l1 := wn_lt (a + 2 ^ 256 - b) k
  have l2 := wn_lt b k
  generalize wn (a + 2 ^ 256 - b) k = D at *
  generalize ((a + 2 ^ 256 - b) % 2 ^ (64 * k) + b % 2 ^ (64 * k)) / 2 ^ (64 * k) = c at *
  generalize wn b k = y at *
  generalize wn a k = x at *
  constructor
  · omega
  · split <;> omega
theorem bc_end (a b : Nat) (ha : a < W256) (hb : b < W256) : (0 < ac (a + W256 - b) b 256) = (a < b) := by
  rw [W256_eq] at *
  unfold ac
  apply propext
  omega
/-- AN OPERATION THAT IS WANTED, its guard looked at by the kernel -/
theorem wpList_wanted {P : Program} {ops : Array Oper} {Q : Exit → Act → World → Prop} {a : Act} {w : World} {rest : List Oper} {o : Oper} (hw : Region.wanted o (yielded ops a.tmps) = true)
    (h : ∀ K : Act → World → Prop, (∀ a w, wpList P ops Q rest a w → K a w) → o.wp P a w K Q) : wpList P ops Q (o :: rest) a w :=
  wpList_step fun K hK => by rw [if_pos hw]; exact h K hK

/-- block b of the world w holds the cells c, not frozen -/
def Blk (w : World) (b : Nat) (c : Array Value) (t : TypeId) : Prop := w.heap[b]? = some (.cells c t (0, 0))
theorem Blk.lt {w : World} {b : Nat} {c : Array Value} {t : TypeId} (h : Blk w b c t) : b < w.heap.size := (Array.getElem?_eq_some_iff.1 h).1
theorem Blk.cell {w : World} {b : Nat} {c : Array Value} {t : TypeId} (h : Blk w b c t) (o : Nat) : w.cell? ⟨b, o, none⟩ = c[o]? := by
  unfold Blk at h; simp [World.cell?, h]
theorem Blk.free {w : World} {b : Nat} {c : Array Value} {t : TypeId} (h : Blk w b c t) (o : Nat) : w.frozen? ⟨b, o, none⟩ = false := by
  unfold Blk at h; simp [World.frozen?, h]
theorem Blk.new (w : World) (c : Array Value) (t : TypeId) : Blk (w.alloc (.cells c t)) w.heap.size c t := by
  show (w.heap.push _)[_]? = _; simp
theorem Blk.alloc {w : World} {b : Nat} {c : Array Value} {t : TypeId} (h : Blk w b c t) (o : Obj) : Blk (w.alloc o) b c t :=
  (Below.heap_alloc w o b h.lt).trans h
theorem Blk.drew {w : World} {b : Nat} {c : Array Value} {t : TypeId} (h : Blk w b c t) : Blk w.drew b c t := h
theorem Blk.drewN {w : World} {b : Nat} {c : Array Value} {t : TypeId} (h : Blk w b c t) (n : Nat) : Blk (w.drewN n) b c t := h
theorem Blk.set {w : World} {b : Nat} {c : Array Value} {t : TypeId} (h : Blk w b c t) (o : Nat) (v : Value) : Blk (w.setCell ⟨b, o, none⟩ v) b (c.setIfInBounds o v) t := by
  unfold Blk at *; simp only [World.setCell, Array.getElem?_modify]; simp [h]
theorem Blk.set4 {w : World} {b : Nat} {x0 x1 x2 x3 y0 y1 y2 y3 : Value} {t : TypeId} (h : Blk w b #[x0, x1, x2, x3] t) :
    Blk ((((w.setCell ⟨b, 0, none⟩ y0).setCell ⟨b, 1, none⟩ y1).setCell ⟨b, 2, none⟩ y2).setCell ⟨b, 3, none⟩ y3) b #[y0, y1, y2, y3] t := (((h.set 0 y0).set 1 y1).set 2 y2).set 3 y3
/-- a number is stored into a variable -/
theorem Blk.put {w : World} {b m n : Nat} {t : TypeId} (h : Blk w b (wcs m) t) :
    Blk ((((w.setCell ⟨b, 0, none⟩ (.int .u64 (wd n 0))).setCell ⟨b, 1, none⟩ (.int .u64 (wd n 1))).setCell ⟨b, 2, none⟩ (.int .u64 (wd n 2))).setCell ⟨b, 3, none⟩ (.int .u64 (wd n 3))) b (wcs n) t := Blk.set4 h
theorem Blk.put0 {w : World} {b n : Nat} {t : TypeId} (h : Blk w b #[.int .u64 0, .int .u64 0, .int .u64 0, .int .u64 0] t) :
    Blk ((((w.setCell ⟨b, 0, none⟩ (.int .u64 (wd n 0))).setCell ⟨b, 1, none⟩ (.int .u64 (wd n 1))).setCell ⟨b, 2, none⟩ (.int .u64 (wd n 2))).setCell ⟨b, 3, none⟩ (.int .u64 (wd n 3))) b (wcs n) t := Blk.set4 h
theorem Blk.putFar {w : World} {b g : Nat} {c : Array Value} {t : TypeId} {y0 y1 y2 y3 : Value} (h : Blk w b c t) (hne : b ≠ g) :
    Blk ((((w.setCell ⟨g, 0, none⟩ y0).setCell ⟨g, 1, none⟩ y1).setCell ⟨g, 2, none⟩ y2).setCell ⟨g, 3, none⟩ y3) b c t :=
  by unfold Blk at *; rw [Below.heap_setCell _ _ _ _ hne, Below.heap_setCell _ _ _ _ hne, Below.heap_setCell _ _ _ _ hne, Below.heap_setCell _ _ _ _ hne]; exact h
theorem below_put {B : Nat} {v w : World} {g : Nat} {y0 y1 y2 y3 : Value} (h : Below B v w) (hg : B ≤ g) :
    Below B v ((((w.setCell ⟨g, 0, none⟩ y0).setCell ⟨g, 1, none⟩ y1).setCell ⟨g, 2, none⟩ y2).setCell ⟨g, 3, none⟩ y3) :=
  (((h.setCell hg _).setCell hg _).setCell hg _).setCell hg _
theorem Blk.setFar {w : World} {b : Nat} {c : Array Value} {t : TypeId} (h : Blk w b c t) {a : Addr} (hb : b ≠ a.block) (v : Value) : Blk (w.setCell a v) b c t :=
  (Below.heap_setCell w a v b hb).trans h
theorem Blk.below {B : Nat} {w w' : World} {b : Nat} {c : Array Value} {t : TypeId} (h : Blk w b c t) (hb : Below B w w') (hlt : b < B) : Blk w' b c t :=
  (hb.block b hlt).trans h
theorem Blk.beyond {w w' : World} {b : Nat} {c : Array Value} {t : TypeId} (h : Blk w b c t) (hb : Below w.heap.size w w') : Blk w' b c t :=
  (hb.block b h.lt).trans h
/-- two new blocks -/
theorem Blk.w2_0 (w : World) (c0 : Array Value) (t : TypeId) (o1 : Obj) : Blk ((w.alloc (.cells c0 t)).alloc o1) w.heap.size c0 t := (Blk.new w c0 t).alloc o1
theorem Blk.w2_1 (w : World) (c0 : Array Value) (t : TypeId) (o1 : Obj) : Blk ((w.alloc o1).alloc (.cells c0 t)) (w.heap.size + 1) c0 t := by
  have h := Blk.new (w.alloc o1) c0 t
  rw [show (w.alloc o1).heap.size = w.heap.size + 1 from by simp] at h
  exact h
/-- three new blocks -/
theorem Blk.w3_0 (w : World) (c0 : Array Value) (t : TypeId) (o1 o2 : Obj) : Blk (((w.alloc (.cells c0 t)).alloc o1).alloc o2) w.heap.size c0 t := ((Blk.new w c0 t).alloc o1).alloc o2
theorem Blk.w3_1 (w : World) (c0 : Array Value) (t : TypeId) (o1 o2 : Obj) : Blk (((w.alloc o1).alloc (.cells c0 t)).alloc o2) (w.heap.size + 1) c0 t := by
  have h := Blk.new (w.alloc o1) c0 t
  rw [show (w.alloc o1).heap.size = w.heap.size + 1 from by simp] at h
  exact h.alloc o2
theorem Blk.w3_2 (w : World) (c0 : Array Value) (t : TypeId) (o1 o2 : Obj) : Blk (((w.alloc o1).alloc o2).alloc (.cells c0 t)) (w.heap.size + 1 + 1) c0 t := by
  have h := Blk.new ((w.alloc o1).alloc o2) c0 t
  rw [show ((w.alloc o1).alloc o2).heap.size = w.heap.size + 1 + 1 from by simp] at h
  exact h
/-- four new blocks -/
theorem Blk.w4_0 (w : World) (c0 : Array Value) (t : TypeId) (o1 o2 o3 : Obj) : Blk ((((w.alloc (.cells c0 t)).alloc o1).alloc o2).alloc o3) w.heap.size c0 t := (((Blk.new w c0 t).alloc o1).alloc o2).alloc o3
theorem Blk.w4_1 (w : World) (c0 : Array Value) (t : TypeId) (o1 o2 o3 : Obj) : Blk ((((w.alloc o1).alloc (.cells c0 t)).alloc o2).alloc o3) (w.heap.size + 1) c0 t := by
  have h := Blk.new (w.alloc o1) c0 t
  rw [show (w.alloc o1).heap.size = w.heap.size + 1 from by simp] at h
  exact (h.alloc o2).alloc o3
theorem Blk.w4_2 (w : World) (c0 : Array Value) (t : TypeId) (o1 o2 o3 : Obj) : Blk ((((w.alloc o1).alloc o2).alloc (.cells c0 t)).alloc o3) (w.heap.size + 1 + 1) c0 t := by
  have h := Blk.new ((w.alloc o1).alloc o2) c0 t
  rw [show ((w.alloc o1).alloc o2).heap.size = w.heap.size + 1 + 1 from by simp] at h
  exact h.alloc o3
theorem Blk.w4_3 (w : World) (c0 : Array Value) (t : TypeId) (o1 o2 o3 : Obj) : Blk ((((w.alloc o1).alloc o2).alloc o3).alloc (.cells c0 t)) (w.heap.size + 1 + 1 + 1) c0 t := by
  have h := Blk.new (((w.alloc o1).alloc o2).alloc o3) c0 t
  rw [show (((w.alloc o1).alloc o2).alloc o3).heap.size = w.heap.size + 1 + 1 + 1 from by simp] at h
  exact h
/-- WHAT A REGION THAT DRAWS ITS ORDER HOLDS of the world v in which it began: old blocks are as they were. -/
theorem SK.start (v : World) : Below v.heap.size v v.drew ∧ (∀ b o, b < v.heap.size → v.drew.cell? ⟨b, o, none⟩ = v.cell? ⟨b, o, none⟩) :=
  ⟨(Below.refl _ _).drew, fun _ _ _ => rfl⟩
theorem SK.alloc {v w : World} (h : Below v.heap.size v w ∧ (∀ b o, b < v.heap.size → w.cell? ⟨b, o, none⟩ = v.cell? ⟨b, o, none⟩)) (x : Obj) :
    Below v.heap.size v (w.alloc x) ∧ (∀ b o, b < v.heap.size → (w.alloc x).cell? ⟨b, o, none⟩ = v.cell? ⟨b, o, none⟩) :=
  have hb := h.1.alloc h.1.size x
  ⟨hb, fun _ _ hlt => hb.cell (p := ⟨_, _, none⟩) hlt⟩
theorem SK.set {v w : World} (h : Below v.heap.size v w ∧ (∀ b o, b < v.heap.size → w.cell? ⟨b, o, none⟩ = v.cell? ⟨b, o, none⟩)) {a : Addr} (ha : v.heap.size ≤ a.block) (x : Value) :
    Below v.heap.size v (w.setCell a x) ∧ (∀ b o, b < v.heap.size → (w.setCell a x).cell? ⟨b, o, none⟩ = v.cell? ⟨b, o, none⟩) :=
  have hb := h.1.setCell ha x
  ⟨hb, fun _ _ hlt => hb.cell (p := ⟨_, _, none⟩) hlt⟩
theorem SK.drew {v w : World} (h : Below v.heap.size v w ∧ (∀ b o, b < v.heap.size → w.cell? ⟨b, o, none⟩ = v.cell? ⟨b, o, none⟩)) :
    Below v.heap.size v w.drew ∧ (∀ b o, b < v.heap.size → w.drew.cell? ⟨b, o, none⟩ = v.cell? ⟨b, o, none⟩) := ⟨h.1.drew, h.2⟩
theorem SK.keep {v w w' : World} (h : Below v.heap.size v w ∧ (∀ b o, b < v.heap.size → w.cell? ⟨b, o, none⟩ = v.cell? ⟨b, o, none⟩)) (hb : Below w.heap.size w w') :
    Below v.heap.size v w' ∧ (∀ b o, b < v.heap.size → w'.cell? ⟨b, o, none⟩ = v.cell? ⟨b, o, none⟩) :=
  ⟨h.1.trans (hb.mono h.1.size), fun b o hlt => (hb.cell (p := ⟨b, o, none⟩) (Nat.lt_of_lt_of_le hlt h.1.size)).trans (h.2 b o hlt)⟩
theorem bcell {W w1 : World} (hb : Below W.heap.size W w1) : (∀ b o, b < W.heap.size → w1.cell? ⟨b, o, none⟩ = W.cell? ⟨b, o, none⟩) ∧ (∀ b o, b < W.heap.size → w1.frozen? ⟨b, o, none⟩ = W.frozen? ⟨b, o, none⟩) :=
  ⟨fun b o h => hb.cell (p := ⟨b, o, none⟩) h, fun b o h => hb.frozen (p := ⟨b, o, none⟩) h⟩
/-- the order of two numbers, as the program tells it -/
def cmpN (a b : Nat) : Int := if a < b then -1 else if b < a then 1 else 0
theorem cmp_lt {a b k : Nat} (h : a / 2 ^ (k + 1) = b / 2 ^ (k + 1)) (hb : bt a k < bt b k) : cmpN a b = -1 := by
  unfold cmpN; rw [if_pos]
  unfold bt at hb
  rw [Nat.pow_succ, ← Nat.div_div_eq_div_mul, ← Nat.div_div_eq_div_mul] at h
  have h2 : a / 2 ^ k < b / 2 ^ k := by omega
  exact Nat.lt_of_not_le fun hle => Nat.not_lt.2 (Nat.div_le_div_right hle) h2
theorem cmp_gt {a b k : Nat} (h : a / 2 ^ (k + 1) = b / 2 ^ (k + 1)) (hb : bt b k < bt a k) : cmpN a b = 1 := by
  unfold bt at hb
  rw [Nat.pow_succ, ← Nat.div_div_eq_div_mul, ← Nat.div_div_eq_div_mul] at h
  have h2 : b / 2 ^ k < a / 2 ^ k := by omega
  have h3 : b < a := Nat.lt_of_not_le fun hle => Nat.not_lt.2 (Nat.div_le_div_right hle) h2
  unfold cmpN; rw [if_neg (by omega), if_pos h3]
theorem cmp_next {a b k : Nat} (h : a / 2 ^ (k + 1) = b / 2 ^ (k + 1)) (h1 : ¬ bt a k < bt b k) (h2 : ¬ bt b k < bt a k) : a / 2 ^ k = b / 2 ^ k := by
  unfold bt at h1 h2
  rw [Nat.pow_succ, ← Nat.div_div_eq_div_mul, ← Nat.div_div_eq_div_mul] at h
  omega
theorem cmp_end {a b : Nat} (h : a / 2 ^ 0 = b / 2 ^ 0) : cmpN a b = 0 := by
  simp at h; subst h; simp [cmpN]
theorem cmp_start (a b : Nat) (ha : a < W256) (hb : b < W256) : a / 2 ^ 256 = b / 2 ^ 256 := by
  rw [W256_eq] at *; rw [Nat.div_eq_of_lt ha, Nat.div_eq_of_lt hb]
theorem cmpN_neg (a b : Nat) : (cmpN a b < 0) = (a < b) := by
  apply propext; unfold cmpN; split
  · simp [*]
  · split <;> simp <;> omega
theorem not_word (n k : Nat) (h : n < 2 ^ 256) (hk : k < 4) : wn (2 ^ 256 - 1 - n) k = 2 ^ 64 - 1 - wn n k := by
  have e : 2 ^ 256 - 1 - n = 2 ^ 256 - (n + 1) := by omega
  apply Nat.eq_of_testBit_eq; intro i
  rw [wn_bit, e, Nat.testBit_two_pow_sub_succ h, show 2 ^ 64 - 1 - wn n k = 2 ^ 64 - (wn n k + 1) from by omega, Nat.testBit_two_pow_sub_succ (wn_lt n k), wn_bit]
  by_cases hi : i < 64
  · simp [hi, show 64 * k + i < 256 from by omega]
  · simp [hi]
theorem xor_max (x : Nat) (h : x < 2 ^ 64) : (2 ^ 64 - 1) ^^^ x = 2 ^ 64 - 1 - x := by
  apply Nat.eq_of_testBit_eq; intro i
  rw [Nat.testBit_xor, Nat.testBit_two_pow_sub_one, show 2 ^ 64 - 1 - x = 2 ^ 64 - (x + 1) from by omega, Nat.testBit_two_pow_sub_succ h]
  by_cases hi : i < 64
  · simp [hi]
  · simp [hi]; exact Nat.testBit_lt_two_pow (Nat.lt_of_lt_of_le h (Nat.pow_le_pow_right (by decide) (by omega)))
theorem not_wd (n k : Nat) (h : n < W256) (hk : k < 4) : bits .xor .u64 IntKind.u64.max (wd n k) = wd (W256 - 1 - n) k := by
  rw [W256_eq] at *
  rw [wd_eq, wd_eq, not_word n k h hk, ← xor_max _ (wn_lt n k)]
  exact u64_xor_nat (2 ^ 64 - 1) (wn n k) (by decide) (wn_lt n k)

theorem not_lt_W (n : Nat) : W256 - 1 - n < W256 := by rw [W256_eq]; omega
/-- THE SAME, BUT FOR ONE BLOCK that the region writes. -/
structure BelowX (g : Nat) (v w : World) : Prop where
  os : w.os = v.os
  tape : w.tape = v.tape
  output : w.output = v.output
  size : v.heap.size ≤ w.heap.size
  block : ∀ k, k < v.heap.size → k ≠ g → w.heap[k]? = v.heap[k]?
theorem BelowX.cell {g : Nat} {v w : World} (h : BelowX g v w) : ∀ b o, b < v.heap.size → b ≠ g → w.cell? ⟨b, o, none⟩ = v.cell? ⟨b, o, none⟩ :=
  fun b _ h1 h2 => World.cell?_of_block (w := v) (h.block b h1 h2)
theorem BelowX.below {g B : Nat} {u v w : World} (h : BelowX g v w) (hb : Below B u v) (hB : B ≤ v.heap.size) (hg : B ≤ g) : Below B u w :=
  ⟨h.os.trans hb.os, h.tape.trans hb.tape, h.output.trans hb.output, Nat.le_trans hb.size h.size, fun k hk => (h.block k (Nat.lt_of_lt_of_le hk hB) (by omega)).trans (hb.block k hk)⟩
theorem Blk.belowX {g : Nat} {v w : World} {b : Nat} {c : Array Value} {t : TypeId} (h : Blk v b c t) (hx : BelowX g v w) (hne : b ≠ g) : Blk w b c t := (hx.block b h.lt hne).trans h
theorem BelowX.keep {g : Nat} {v w w' : World} (h : BelowX g v w) (hb : Below w.heap.size w w') : BelowX g v w' :=
  ⟨hb.os.trans h.os, hb.tape.trans h.tape, hb.output.trans h.output, Nat.le_trans h.size hb.size, fun k hk hne => (hb.block k (Nat.lt_of_lt_of_le hk h.size)).trans (h.block k hk hne)⟩
theorem BelowX.set {g : Nat} {v w : World} (h : BelowX g v w) {a : Addr} (ha : a.block = g ∨ v.heap.size ≤ a.block) (x : Value) : BelowX g v (w.setCell a x) :=
  ⟨h.os, h.tape, h.output, by have := h.size; simpa [World.setCell] using this, fun k hk hne => (Below.heap_setCell w a x k (by omega)).trans (h.block k hk hne)⟩
theorem BelowX.alloc {g : Nat} {v w : World} (h : BelowX g v w) (x : Obj) : BelowX g v (w.alloc x) :=
  h.keep ((Below.refl _ _).alloc (Nat.le_refl _) x)
theorem SX.start (g : Nat) (v : World) : BelowX g v v.drew ∧ (∀ b o, b < v.heap.size → b ≠ g → v.drew.cell? ⟨b, o, none⟩ = v.cell? ⟨b, o, none⟩) :=
  ⟨⟨rfl, rfl, rfl, Nat.le_refl _, fun _ _ _ => rfl⟩, fun _ _ _ _ => rfl⟩
theorem SX.keep {g : Nat} {v w w' : World} (h : BelowX g v w ∧ (∀ b o, b < v.heap.size → b ≠ g → w.cell? ⟨b, o, none⟩ = v.cell? ⟨b, o, none⟩)) (hb : Below w.heap.size w w') :
    BelowX g v w' ∧ (∀ b o, b < v.heap.size → b ≠ g → w'.cell? ⟨b, o, none⟩ = v.cell? ⟨b, o, none⟩) := ⟨h.1.keep hb, (h.1.keep hb).cell⟩
theorem SX.alloc {g : Nat} {v w : World} (h : BelowX g v w ∧ (∀ b o, b < v.heap.size → b ≠ g → w.cell? ⟨b, o, none⟩ = v.cell? ⟨b, o, none⟩)) (x : Obj) :
    BelowX g v (w.alloc x) ∧ (∀ b o, b < v.heap.size → b ≠ g → (w.alloc x).cell? ⟨b, o, none⟩ = v.cell? ⟨b, o, none⟩) := ⟨h.1.alloc x, (h.1.alloc x).cell⟩
theorem SX.set {g : Nat} {v w : World} (h : BelowX g v w ∧ (∀ b o, b < v.heap.size → b ≠ g → w.cell? ⟨b, o, none⟩ = v.cell? ⟨b, o, none⟩)) {a : Addr} (ha : a.block = g ∨ v.heap.size ≤ a.block) (x : Value) :
    BelowX g v (w.setCell a x) ∧ (∀ b o, b < v.heap.size → b ≠ g → (w.setCell a x).cell? ⟨b, o, none⟩ = v.cell? ⟨b, o, none⟩) := ⟨h.1.set ha x, (h.1.set ha x).cell⟩
theorem SX.put {g : Nat} {v w : World} {y0 y1 y2 y3 : Value} (h : BelowX g v w ∧ (∀ b o, b < v.heap.size → b ≠ g → w.cell? ⟨b, o, none⟩ = v.cell? ⟨b, o, none⟩)) :
    BelowX g v ((((w.setCell ⟨g, 0, none⟩ y0).setCell ⟨g, 1, none⟩ y1).setCell ⟨g, 2, none⟩ y2).setCell ⟨g, 3, none⟩ y3) ∧
    (∀ b o, b < v.heap.size → b ≠ g → ((((w.setCell ⟨g, 0, none⟩ y0).setCell ⟨g, 1, none⟩ y1).setCell ⟨g, 2, none⟩ y2).setCell ⟨g, 3, none⟩ y3).cell? ⟨b, o, none⟩ = v.cell? ⟨b, o, none⟩) :=
  SX.set (SX.set (SX.set (SX.set h (.inl rfl) _) (.inl rfl) _) (.inl rfl) _) (.inl rfl) _
/-- what holds of the memory in the middle of a call: below B as it was in W; these blocks hold these cells -/
structure St (B : Nat) (W w : World) (l : List (Nat × Array Value × TypeId)) : Prop where
  below : Below B W w
  live : ∀ x ∈ l, Blk w x.1 x.2.1 x.2.2
theorem St.refl (W : World) : St W.heap.size W W [] := ⟨Below.refl _ _, fun _ h => by cases h⟩
theorem St.beyond {B : Nat} {W w w' : World} {l : List (Nat × Array Value × TypeId)} (h : St B W w l) (hB : B ≤ w.heap.size) (hb : Below w.heap.size w w') : St B W w' l :=
  ⟨h.below.trans (hb.mono hB), fun x hx => (h.live x hx).beyond hb⟩
theorem St.size {W w : World} {l : List (Nat × Array Value × TypeId)} (h : St W.heap.size W w l) : W.heap.size ≤ w.heap.size := h.below.size
theorem St.call {W w w' : World} {l : List (Nat × Array Value × TypeId)} (h : St W.heap.size W w l) (hb : Below w.heap.size w w') : St W.heap.size W w' l := h.beyond h.size hb
theorem St.drew {B : Nat} {W w : World} {l : List (Nat × Array Value × TypeId)} (h : St B W w l) : St B W w.drew l := ⟨h.below.drew, fun x hx => (h.live x hx).drew⟩
theorem St.new {W w : World} {l : List (Nat × Array Value × TypeId)} (h : St W.heap.size W w l) (c : Array Value) (t : TypeId) : St W.heap.size W (w.alloc (.cells c t)) ((w.heap.size, c, t) :: l) :=
  ⟨h.below.alloc h.size _, fun x hx => by
    rcases List.mem_cons.1 hx with rfl | hx
    · exact Blk.new _ _ _
    · exact (h.live x hx).alloc _⟩
theorem St.sub {B : Nat} {W w : World} {l l' : List (Nat × Array Value × TypeId)} (h : St B W w l) (hs : ∀ x ∈ l', x ∈ l) : St B W w l' := ⟨h.below, fun x hx => h.live x (hs x hx)⟩
theorem St.at {B : Nat} {W w : World} {l : List (Nat × Array Value × TypeId)} (h : St B W w l) {b : Nat} {c : Array Value} {t : TypeId} (hm : (b, c, t) ∈ l) : Blk w b c t := h.live _ hm
theorem St.c2 {B : Nat} {W w : World} {b0 b1 : Nat} {c0 c1 : Array Value} {t0 t1 : TypeId} {l : List (Nat × Array Value × TypeId)} (h : St B W w ((b0, c0, t0) :: (b1, c1, t1) :: l)) :
    (∀ o, w.cell? ⟨b0, o, none⟩ = c0[o]?) ∧ (∀ o, w.cell? ⟨b1, o, none⟩ = c1[o]?) ∧ b0 < w.heap.size ∧ b1 < w.heap.size :=
  ⟨(h.at (b := b0) (c := c0) (t := t0) (by simp)).cell, (h.at (b := b1) (c := c1) (t := t1) (by simp)).cell, (h.at (b := b0) (c := c0) (t := t0) (by simp)).lt, (h.at (b := b1) (c := c1) (t := t1) (by simp)).lt⟩
theorem St.tail {B : Nat} {W w : World} {x : Nat × Array Value × TypeId} {l : List (Nat × Array Value × TypeId)} (h : St B W w (x :: l)) : St B W w l := ⟨h.below, fun y hy => h.live y (List.mem_cons_of_mem _ hy)⟩
theorem St.new2 (w : World) (c0 c1 : Array Value) (t0 t1 : TypeId) : St w.heap.size w ((w.alloc (.cells c0 t0)).alloc (.cells c1 t1)) [(w.heap.size + 1, c1, t1), (w.heap.size, c0, t0)] := by
  have h := ((St.refl w).new c0 t0).new c1 t1
  rw [show (w.alloc (.cells c0 t0)).heap.size = w.heap.size + 1 from by simp] at h
  exact h

end Go.Proofs.YtbjbjgfjaopibaaGreatDoor
end

section
/- Memory: what a call leaves as it was; rows of bytes that an object owns. No program in sight. -/
namespace Go.Proofs.YtbjbjgfjaopibaaGreatDoor
open Go Go.RowKit

/-- the blocks that are not in X are as they were -/
structure Keep (X : Nat → Prop) (w w' : World) : Prop where
  os : w'.os = w.os
  tape : w'.tape = w.tape
  output : w'.output = w.output
  size : w.heap.size ≤ w'.heap.size
  block : ∀ k, k < w.heap.size → ¬ X k → w'.heap[k]? = w.heap[k]?
section
variable {X Y : Nat → Prop} {a b c w w' : World}
theorem Keep.refl (X : Nat → Prop) (w : World) : Keep X w w := ⟨rfl, rfl, rfl, Nat.le_refl _, fun _ _ _ => rfl⟩
theorem Keep.trans (h : Keep X a b) (k : Keep X b c) : Keep X a c :=
  ⟨k.os.trans h.os, k.tape.trans h.tape, k.output.trans h.output, Nat.le_trans h.size k.size, fun i hi hx => (k.block i (Nat.lt_of_lt_of_le hi h.size) hx).trans (h.block i hi hx)⟩
theorem Keep.mono (h : Keep X a b) (hx : ∀ k, X k → Y k) : Keep Y a b := ⟨h.os, h.tape, h.output, h.size, fun k hk hn => h.block k hk fun hX => hn (hx k hX)⟩
/-- what is written beyond a's own blocks counts for nothing -/
theorem Keep.trans' (h : Keep X a b) (k : Keep Y b c) (hx : ∀ k, Y k → X k ∨ a.heap.size ≤ k) : Keep X a c :=
  ⟨k.os.trans h.os, k.tape.trans h.tape, k.output.trans h.output, Nat.le_trans h.size k.size, fun i hi hn => (k.block i (Nat.lt_of_lt_of_le hi h.size) fun hY => by rcases hx i hY with h1 | h1; exact hn h1; omega).trans (h.block i hi hn)⟩
theorem Keep.alloc (h : Keep X a w) (o : Obj) : Keep X a (w.alloc o) :=
  h.trans ⟨rfl, rfl, rfl, by simp, fun k hk _ => Below.heap_alloc _ _ _ hk⟩
theorem Keep.drew (h : Keep X a w) : Keep X a w.drew := ⟨h.os, h.tape, h.output, h.size, h.block⟩
theorem Keep.set (h : Keep X a w) {p : Addr} (hp : X p.block ∨ a.heap.size ≤ p.block) (u : Value) : Keep X a (w.setCell p u) :=
  ⟨h.os, h.tape, h.output, by have := h.size; simpa [World.setCell] using this, fun k hk hn => (Below.heap_setCell w p u k (by rcases hp with hp | hp; exact fun e => hn (e ▸ hp); omega)).trans (h.block k hk hn)⟩
theorem Keep.setCells {g : Nat} (hg : X g ∨ a.heap.size ≤ g) : ∀ (vs : List Value) (o : Nat) {w : World}, Keep X a w → Keep X a (w.setCells g o vs)
  | [], _, _, h => h
  | v :: r, o, _, h => Keep.setCells hg r (o + 1) (h.set (p := ⟨g, o, none⟩) hg v)
theorem Keep.of_below (h : Below w.heap.size w w') : Keep X w w' := ⟨h.os, h.tape, h.output, h.size, fun k hk _ => h.block k hk⟩
theorem Keep.of_grown {row : Option Nat} (h : w.grownBy w' row) (hr : ∀ g, row = some g → X g) : Keep X w w' :=
  ⟨h.os, h.tape, h.output, h.size, fun k hk hn => h.block k hk fun e => hn (hr k e.symm)⟩
theorem Keep.below {B : Nat} (h : Keep X a w) (hB : B ≤ a.heap.size) (hx : ∀ k, X k → B ≤ k) : Below B a w :=
  ⟨h.os, h.tape, h.output, h.size, fun k hk => h.block k (Nat.lt_of_lt_of_le hk hB) fun hX => by have := hx k hX; omega⟩
theorem Keep.blk (h : Keep X a w) {g : Nat} {cs : Array Value} {t : TypeId} (hb : Blk a g cs t) (hn : ¬ X g) : Blk w g cs t := (h.block g hb.lt hn).trans hb
theorem Keep.cell (h : Keep X a w) {p : Addr} (hl : p.block < a.heap.size) (hn : ¬ X p.block) : w.cell? p = a.cell? p := World.cell?_of_block (h.block p.block hl hn)
end
theorem cell_lt {w : World} {p : Addr} {v : Value} (h : w.cell? p = some v) : p.block < w.heap.size := by
  rcases Nat.lt_or_ge p.block w.heap.size with hl | hl
  · exact hl
  · have : w.heap[p.block]? = none := Array.getElem?_eq_none hl
    unfold World.cell? at h
    rw [this] at h; cases h
theorem bytes_keep {X : Nat → Prop} {a w : World} {p : Option Addr} {n : Nat} {xs : List Int} (h : Lib.BytesIn a p n xs) (hk : Keep X a w) (hn : 0 < n → ∀ q, p = some q → ¬ X q.block) : Lib.BytesIn w p n xs := fun h0 => by
  obtain ⟨b, o, rfl, hc⟩ := h.at h0
  refine ⟨b, o, rfl, fun i hi => ?_⟩
  rw [hk.cell (p := ⟨b, o + i, none⟩) (cell_lt (hc i hi)) (fun hx => hn h0 ⟨b, o, none⟩ rfl hx)]
  exact hc i hi

theorem bytes_lt {w : World} {p : Option Addr} {n : Nat} {xs : List Int} (h : Lib.BytesIn w p n xs) (h0 : 0 < n) : ∀ q, p = some q → q.block < w.heap.size := fun q hq => by
  obtain ⟨b, o, e, hc⟩ := h.at h0
  rw [hq] at e; cases e
  exact cell_lt (p := ⟨b, o + 0, none⟩) (hc 0 h0)
/-- the cells of bytes -/
def u8s (xs : List Int) : List Value := xs.map (Value.int .u8)
theorem u8s_length (xs : List Int) : (u8s xs).length = xs.length := by simp [u8s]
theorem u8s_append (xs ys : List Int) : u8s (xs ++ ys) = u8s xs ++ u8s ys := by simp [u8s]
theorem u8s_get (xs : List Int) (i : Nat) (h : i < xs.length) : (u8s xs)[i]? = some (.int .u8 (xs.getD i 0)) := by simp [u8s, List.getD, h]
theorem u8s_one (xs : List Int) : ∀ u ∈ u8s xs, u.oneCell' = true := by intro u hu; obtain ⟨x, _, rfl⟩ := List.mem_map.1 hu; rfl
/-- a slice that holds bytes in a block of its own: nil (o = none), or from the head of block g on (o = some g) -/
def Row (w : World) (e : TypeId) (v : Value) (xs : List Int) (o : Option Nat) : Prop :=
  (v = .slice none 0 0 ∧ xs = [] ∧ o = none) ∨ ∃ g cap cur, o = some g ∧ v = .slice (some ⟨g, 0, none⟩) xs.length cap ∧ Blk w g cur e ∧ xs.length ≤ cap ∧ cap ≤ cur.size ∧ cap ≤ maxLen ∧ cur.toList.take xs.length = u8s xs
section
variable {w w' : World} {e : TypeId} {v : Value} {xs : List Int} {o : Option Nat} {g : Nat}
theorem Row.nil (w : World) (e : TypeId) : Row w e (.slice none 0 0) [] none := .inl ⟨rfl, rfl, rfl⟩
theorem Row.keep {X : Nat → Prop} (h : Row w e v xs o) (hk : Keep X w w') (hn : ∀ g, o = some g → ¬ X g) : Row w' e v xs o := by
  rcases h with h | ⟨g, cap, cur, h0, h1, h2, h3⟩
  · exact .inl h
  · exact .inr ⟨g, cap, cur, h0, h1, hk.blk h2 (hn g h0), h3⟩
theorem Row.lt (h : Row w e v xs o) : ∀ g, o = some g → g < w.heap.size := by
  intro g hg
  rcases h with ⟨_, _, h0⟩ | ⟨g', cap, cur, h0, h1, h2, h3⟩
  · rw [h0] at hg; cases hg
  · rw [h0] at hg; cases hg; exact h2.lt
theorem Row.cell {cur : Array Value} (hb : Blk w g cur e) (ht : cur.toList.take xs.length = u8s xs) (i : Nat) (hi : i < xs.length) : w.cell? ⟨g, i, none⟩ = some (.int .u8 (xs.getD i 0)) := by
  rw [hb.cell, ← u8s_get xs i hi, ← ht, List.getElem?_take, if_pos hi]; simp
/-- what it looks like -/
theorem Row.form (h : Row w e v xs o) : ∃ p c, v = .slice p xs.length c ∧ Lib.BytesIn w p xs.length xs ∧ xs.length ≤ c ∧ c ≤ maxLen ∧ (p = none ∧ xs = [] ∧ c = 0 ∧ o = none ∨ ∃ g, o = some g ∧ p = some ⟨g, 0, none⟩ ∧ g < w.heap.size) := by
  rcases h with ⟨rfl, rfl, rfl⟩ | ⟨g, cap, cur, h0, h1, h2, h3, h4, h5, h6⟩
  · exact ⟨none, 0, rfl, Lib.BytesIn.nil _ _ _, Nat.le_refl _, Nat.zero_le _, .inl ⟨rfl, rfl, rfl, rfl⟩⟩
  · exact ⟨_, cap, h1, fun _ => ⟨g, 0, rfl, fun i hi => by rw [Nat.zero_add]; exact Row.cell h2 h6 i hi⟩, h3, h5, .inr ⟨g, h0, rfl, h2.lt⟩⟩
/-- its first n bytes, and room for no more -/
theorem Row.cut {p : Option Addr} {c n : Nat} (h : Row w e (.slice p xs.length c) xs o) (hn : n ≤ xs.length) : Row w e (.slice p n n) (xs.take n) o := by
  have hl : (xs.take n).length = n := by simp; omega
  rcases h with ⟨h1, rfl, rfl⟩ | ⟨g, cap, cur, h0, h1, h2, h3, h4, h5, h6⟩
  · simp at h1 hn; obtain ⟨rfl, rfl⟩ := h1; subst hn; exact .inl ⟨rfl, by simp, rfl⟩
  · simp at h1
    obtain ⟨rfl, rfl⟩ := h1
    refine .inr ⟨g, n, cur, h0, by rw [hl], h2, by omega, by omega, by omega, ?_⟩
    rw [hl, show u8s (xs.take n) = (u8s xs).take n from by simp [u8s], ← h6, List.take_take, Nat.min_eq_left hn]
/-- a row that a call made -/
theorem Row.of_owns {B n : Nat} (h : w.ownsRow B e 1 v n (xs.map (Value.int .u8))) : ∃ o, Row w e v xs o ∧ (∀ g, o = some g → B ≤ g ∧ g < w.heap.size) ∧ (0 < n → ∃ g, o = some g) := by
  obtain ⟨hl, h⟩ := h
  have hn : xs.length = n := by simpa using hl
  subst hn
  rcases h with ⟨rfl, h0⟩ | ⟨g, cap, cur, rfl, hB, hg, h3, h4, h5, h6⟩
  · exact ⟨none, .inl ⟨rfl, List.eq_nil_of_length_eq_zero h0, rfl⟩, fun g hg => by (cases hg), fun h => by omega⟩
  · exact ⟨some g, .inr ⟨g, cap, cur, rfl, rfl, hg, h3, by omega, h4, by simpa [u8s] using h6⟩, fun g' hg' => by (cases hg'; exact ⟨hB, (Array.getElem?_eq_some_iff.1 hg).1⟩), fun _ => ⟨g, rfl⟩⟩
theorem take_setCells (cur : List Value) (n : Nat) (news : List Value) (h : n + news.length ≤ cur.length) : (cur.take n ++ news ++ cur.drop (n + news.length)).take (n + news.length) = cur.take n ++ news := by
  have : (cur.take n ++ news).length = n + news.length := by simp; omega
  rw [← this]; exact List.take_left
/-- a row written from n on -/
theorem Blk.setMid {c : Array Value} {t : TypeId} (h : Blk w g c t) (n : Nat) (news : List Value) (hn : n + news.length ≤ c.size) :
    Blk (w.setCells g n news) g (c.toList.take n ++ news ++ c.toList.drop (n + news.length)).toArray t := by
  -- one cell after the other
  have key : ∀ (vs : List Value) (o : Nat) (w : World) (pre mid post : List Value), pre.length = o → mid.length = vs.length → Blk w g (pre ++ mid ++ post).toArray t → Blk (w.setCells g o vs) g (pre ++ vs ++ post).toArray t := by
    intro vs
    induction vs with
    | nil =>
      intro o w pre mid post _ h2 h
      have : mid = [] := List.length_eq_zero_iff.1 h2
      subst this; exact h
    | cons v r ih =>
      intro o w pre mid post h1 h2 h
      match mid, h2, h with
      | p :: mid, h2, h =>
        have e1 : (pre ++ p :: mid ++ post).toArray.setIfInBounds o v = ((pre ++ [v]) ++ mid ++ post).toArray := by subst h1; simp
        have h3 := h.set o v
        rw [e1] at h3
        have := ih (o + 1) (w.setCell ⟨g, o, none⟩ v) (pre ++ [v]) mid post (by simp [h1]) (by simpa using h2) h3
        simpa [World.setCells] using this
  refine key news n w (c.toList.take n) ((c.toList.drop n).take news.length) (c.toList.drop (n + news.length)) (by simp; omega) (by simp; omega) ?_
  have e2 : c.toList.take n ++ (c.toList.drop n).take news.length ++ c.toList.drop (n + news.length) = c.toList := by
    rw [List.append_assoc, ← List.drop_drop, List.take_append_drop, List.take_append_drop]
  rw [e2]; exact h

/-- THE LAW OF APPEND onto such a row, out of whatever slice of bytes -/
theorem row_appendL {P : Program} (t ty : TypeId) (i : TypeInfo) (z : Value) (ht : P.underlying t = some (.slice e)) (hi : P.info? e = some i) (hz : i.zero = some z) (hs : i.size = 1) (hby : i.bytes = 1) (hzs : z.cells.size = 1)
    (h : Row w e v xs o) {p : Option Addr} {c : Nat} {ys : List Int} (hy : Lib.BytesIn w p ys.length ys) (hb : xs.length + ys.length ≤ 140737488355328) :
    ∃ v' w' o', (Builtin.append_ #[t, t] ty #[v, .slice p ys.length c]).run P w = .ok v' w' ∧ Row w' e v' (xs ++ ys) o' ∧ (o' = o ∨ ∃ g', o' = some g' ∧ w.heap.size ≤ g') ∧ Keep (fun k => o = some k) w w' := by
  by_cases h0 : ys.length = 0
  · obtain rfl : ys = [] := List.eq_nil_of_length_eq_zero h0
    obtain ⟨q, c2, rfl, _, hc2, _⟩ := h.form
    refine ⟨_, w, o, ?_, by rw [List.append_nil]; exact h, .inl rfl, Keep.refl _ _⟩
    cases q <;> cases p <;> simp [Builtin.append_, run_underlying ht, sizeOf, typeInfo, hi, Builtin.lenOf, hc2, Builtin.firstCells, loadCells, loadCellsFrom, storeCells]
  · obtain ⟨pb, po, rfl, hc⟩ := hy.at (by omega)
    have hl : (u8s ys).length = ys.length * i.size := by rw [u8s_length, hs, Nat.mul_one]
    have hnews : ∀ j u, (u8s ys)[j]? = some u → w.cell? ((⟨pb, po, none⟩ : Addr).add j) = some u := by
      intro j u hu
      have hj : j < ys.length := by have := (List.getElem?_eq_some_iff.1 hu).1; simpa [u8s_length] using this
      rw [u8s_get ys j hj] at hu
      rw [Addr.add_lit, hc j hj]; exact hu
    rcases h with ⟨rfl, rfl, rfl⟩ | ⟨g, cap, cur, rfl, rfl, h2, h3, h4, h5, h6⟩
    · obtain ⟨v', w', r1, r2, r3, r4⟩ := run_append_own (P := P) w w.heap.size t ty e i z 1 1 ht hi hz hs hby hzs (by decide) (.slice none 0 0) 0 [] (World.ownsRow_nil w _ e 1) ⟨pb, po, none⟩ ys.length c (u8s ys) (by rw [hl, hs]) hnews (u8s_one ys) (by unfold maxLen; omega) (by omega) (Nat.le_refl _)
      rw [Nat.zero_add, List.nil_append] at r2
      obtain ⟨o', q1, q2, q3⟩ := Row.of_owns r2
      obtain ⟨g', rfl⟩ := q3 (by omega)
      exact ⟨v', w', some g', r1, by simpa using q1, .inr ⟨g', rfl, (q2 g' rfl).1⟩, Keep.of_grown r3 (fun g hg => by simp [Value.ownBlock] at hg)⟩
    · by_cases hroom : xs.length + ys.length ≤ cap
      · have hlt : ∀ j, j < (u8s ys).length → 0 + xs.length * i.size + j < cur.size := by intro j hj; rw [u8s_length] at hj; rw [hs]; omega
        have hr := run_append_room_cells (P := P) w t ty e i ht hi g 0 xs.length cap ⟨pb, po, none⟩ ys.length c (u8s ys) hl hnews (u8s_one ys) hroom
          (fun j hj => by rw [h2.cell, Array.getElem?_eq_getElem (hlt j hj)]; rfl) (fun j _ => h2.free _)
        refine ⟨_, _, some g, hr, .inr ⟨g, cap, (cur.toList.take xs.length ++ u8s ys ++ cur.toList.drop (xs.length + (u8s ys).length)).toArray, rfl, by rw [List.length_append], ?_, by rw [List.length_append]; exact hroom, ?_, h5, ?_⟩, .inl rfl, Keep.setCells (X := fun k => some g = some k) (.inl rfl) _ _ (Keep.refl _ _)⟩
        · rw [show 0 + xs.length * i.size = xs.length from by rw [hs]; omega]
          exact h2.setMid xs.length (u8s ys) (by rw [u8s_length]; omega)
        · simp [u8s_length]; omega
        · rw [List.length_append, List.toList_toArray, ← u8s_length ys, take_setCells _ _ _ (by simp [u8s_length]; omega), h6, u8s_append]
      · obtain ⟨v', w', r1, r2, r3⟩ := run_append_arg_grows (P := P) w t ty e i z 1 1 ht hi hz hs hby hzs (by decide) ⟨g, 0, none⟩ xs.length cap (u8s xs) (by simp [u8s_length])
          (fun j u hu => by
            have hj : j < xs.length := by have := (List.getElem?_eq_some_iff.1 hu).1; simpa [u8s_length] using this
            rw [u8s_get xs j hj] at hu
            rw [Addr.add_lit, Nat.zero_add, Row.cell h2 h6 j hj]; exact hu)
          ⟨pb, po, none⟩ ys.length c (u8s ys) (by rw [hl, hs]) hnews (by omega) (by unfold maxLen; omega) (by omega)
        obtain ⟨o', q1, q2, q3⟩ := Row.of_owns (xs := xs ++ ys) (by simpa [u8s] using r2)
        obtain ⟨g', rfl⟩ := q3 (by omega)
        exact ⟨v', w', some g', r1, q1, .inr ⟨g', rfl, (q2 g' rfl).1⟩, Keep.of_grown r3 (fun g hg => by cases hg)⟩
theorem row_append {P : Program} (t ty : TypeId) (i : TypeInfo) (z : Value) (ht : P.underlying t = some (.slice e)) (hi : P.info? e = some i) (hz : i.zero = some z) (hs : i.size = 1) (hby : i.bytes = 1) (hzs : z.cells.size = 1)
    (h : Row w e v xs o) {p : Option Addr} {c : Nat} {ys : List Int} (hy : Lib.BytesIn w p ys.length ys) (hb : xs.length + ys.length ≤ 1099511627776) :
    ∃ v' w' o', (Builtin.append_ #[t, t] ty #[v, .slice p ys.length c]).run P w = .ok v' w' ∧ Row w' e v' (xs ++ ys) o' ∧ (o' = o ∨ ∃ g', o' = some g' ∧ w.heap.size ≤ g') ∧ Keep (fun k => o = some k) w w' :=
  row_appendL t ty i z ht hi hz hs hby hzs h hy (by omega)
end
/-- 'append' at the list of a region's operations, once its run is known -/
theorem wpl_append {P : Program} {w w' : World} {ops : Array Oper} {rest : List Oper} {o : Oper} {a : Act} {Q : Exit → Act → World → Prop} (hgd : o.guard = none) (s x : Operand) (t : TypeId)
    (ho : o.op = .call { callee := .builtin .append, args := #[s, x], argTypes := #[t, t] }) {v1 v2 v' : Value} (hs : a.eval s = v1) (hx : a.eval x = v2)
    (hrun : (Builtin.append_ #[t, t] o.type #[v1, v2]).run P w = .ok v' w') (h : wpList P ops Q rest (a.put o.dst v') w') : wpList P ops Q (o :: rest) a w := by
  refine wpList_plain hgd fun K hK' => ?_
  unfold Oper.wp
  simp [execOp, ho, resolve, invoke, builtin, hs, hx, hrun, Result.andThen]
  exact hK' _ _ h
end Go.Proofs.YtbjbjgfjaopibaaGreatDoor
end
