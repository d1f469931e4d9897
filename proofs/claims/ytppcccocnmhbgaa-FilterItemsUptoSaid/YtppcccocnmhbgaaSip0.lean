/- SipHash-2-4, plainly: words of 64 bits. No program in sight. -/
import Derived.WalkKit
import Derived.Laws.BitsLemmas
namespace Go.Proofs.Ytppcccocnmhbgaa
open Go
set_option linter.unusedVariables false

abbrev B64 := BitVec 64
def lv (x : B64) : Int := (x.toNat : Int)
theorem lv_nonneg (x : B64) : 0 ≤ lv x := Int.natCast_nonneg _
theorem lv_lt (x : B64) : lv x < 18446744073709551616 := by have := x.isLt; unfold lv; omega
theorem lv_inj {a b : B64} (h : lv a = lv b) : a = b := by unfold lv at h; exact BitVec.eq_of_toNat_eq (by omega)
theorem lv_wrap (a : B64) : IntKind.u64.wrap (lv a) = lv a := by rw [IntKind.wrap_u64]; have := lv_nonneg a; have := lv_lt a; omega
theorem lv_add (a b : B64) : IntKind.u64.wrap (lv a + lv b) = lv (a + b) := by
  rw [IntKind.wrap_u64]; unfold lv; rw [BitVec.toNat_add]; omega
theorem ofInt_lv (a : B64) : BitVec.ofInt 64 (lv a) = a := by unfold lv; rw [BitVec.ofInt_natCast, BitVec.ofNat_toNat]; simp
theorem lv_xor (a b : B64) : bits .xor .u64 (lv a) (lv b) = lv (a ^^^ b) := by
  show IntKind.u64.wrap ((BitVec.ofInt 64 (lv a) ^^^ BitVec.ofInt 64 (lv b)).toNat : Int) = _
  rw [ofInt_lv, ofInt_lv]; exact lv_wrap (a ^^^ b)
theorem lv_or (a b : B64) : bits .or .u64 (lv a) (lv b) = lv (a ||| b) := by
  show IntKind.u64.wrap ((BitVec.ofInt 64 (lv a) ||| BitVec.ofInt 64 (lv b)).toNat : Int) = _
  rw [ofInt_lv, ofInt_lv]; exact lv_wrap (a ||| b)
theorem lv_and (a b : B64) : bits .and .u64 (lv a) (lv b) = lv (a &&& b) := by
  show IntKind.u64.wrap ((BitVec.ofInt 64 (lv a) &&& BitVec.ofInt 64 (lv b)).toNat : Int) = _
  rw [ofInt_lv, ofInt_lv]; exact lv_wrap (a &&& b)
theorem lv_shr (a : B64) (n : Nat) : lv a / 2 ^ n = lv (a >>> n) := by
  unfold lv
  rw [BitVec.toNat_ushiftRight, Nat.shiftRight_eq_div_pow]
  simp
theorem lv_shl (a : B64) (n : Nat) : IntKind.u64.wrap (lv a * 2 ^ n) = lv (a <<< n) := by
  rw [IntKind.wrap_u64]; unfold lv
  rw [BitVec.toNat_shiftLeft, Nat.shiftLeft_eq]
  simp
def rol (x : B64) (n : Nat) : B64 := x.rotateLeft n
theorem rol_or (x : B64) (n : Nat) (h : n < 64) : (x <<< n) ||| (x >>> (64 - n)) = rol x n := by
  unfold rol BitVec.rotateLeft BitVec.rotateLeftAux
  rw [Nat.mod_eq_of_lt h]
/-- a number below 2^64, as a word -/
def bw (n : Nat) : B64 := BitVec.ofNat 64 n
theorem lv_bw (n : Nat) (h : n < 18446744073709551616) : lv (bw n) = (n : Int) := by
  unfold lv bw; rw [BitVec.toNat_ofNat, Nat.mod_eq_of_lt (by omega)]
/-- the four words -/
structure Sip where
  a : B64
  b : B64
  c : B64
  d : B64
def Sip.cells (s : Sip) : Array Value := #[.int .u64 (lv s.a), .int .u64 (lv s.b), .int .u64 (lv s.c), .int .u64 (lv s.d)]
def sipRound (s : Sip) : Sip :=
  let a1 := s.a + s.b
  let c1 := s.c + s.d
  let b1 := rol s.b 13 ^^^ a1
  let d1 := rol s.d 16 ^^^ c1
  let a2 := rol a1 32 + d1
  let c2 := c1 + b1
  ⟨a2, rol b1 17 ^^^ c2, rol c2 32, rol d1 21 ^^^ a2⟩
def sipTake (s : Sip) (m : B64) : Sip :=
  let t := sipRound (sipRound ⟨s.a, s.b, s.c, s.d ^^^ m⟩)
  ⟨t.a ^^^ m, t.b, t.c, t.d⟩
/-- bytes are a number, the lowest first -/
def leN : List Int → Nat
  | [] => 0
  | x :: r => x.toNat + 256 * leN r
theorem leN_lt : ∀ (l : List Int), (∀ x ∈ l, 0 ≤ x ∧ x ≤ 255) → leN l < 256 ^ l.length
  | [], _ => by simp [leN]
  | x :: r, h => by
    have ih := leN_lt r (fun y hy => h y (List.mem_cons_of_mem _ hy))
    have h0 := h x (List.mem_cons_self ..)
    unfold leN
    rw [List.length_cons, Nat.pow_succ]
    omega
theorem leN_snoc (l : List Int) (x : Int) : leN (l ++ [x]) = leN l + 256 ^ l.length * x.toNat := by
  induction l with
  | nil => simp [leN]
  | cons y r ih =>
    show y.toNat + 256 * leN (r ++ [x]) = y.toNat + 256 * leN r + 256 ^ (r.length + 1) * x.toNat
    rw [ih, Nat.pow_succ, Nat.mul_add, ← Nat.mul_assoc, Nat.mul_comm 256 (256 ^ r.length)]; omega
def sipInit (k0 k1 : B64) : Sip := ⟨k0 ^^^ 0x736f6d6570736575#64, k1 ^^^ 0x646f72616e646f6d#64, k0 ^^^ 0x6c7967656e657261#64, k1 ^^^ 0x7465646279746573#64⟩
/-- so many words of eight bytes are taken -/
def sipWords (s : Sip) (bs : List Int) : Nat → Sip
  | 0 => s
  | n + 1 => sipTake (sipWords s bs n) (bw (leN ((bs.drop (8 * n)).take 8)))
/-- the last word: what is left, and how many bytes there were -/
def sipLast (bs : List Int) : B64 := bw (bs.length % 256 * 2 ^ 56 + leN (bs.drop (8 * (bs.length / 8))))
def sipEnd (s : Sip) : B64 :=
  let t := sipRound (sipRound (sipRound (sipRound ⟨s.a, s.b, s.c ^^^ 0xff#64, s.d⟩)))
  t.a ^^^ t.b ^^^ t.c ^^^ t.d
def sipS (k0 k1 : B64) (bs : List Int) : B64 := sipEnd (sipTake (sipWords (sipInit k0 k1) bs (bs.length / 8)) (sipLast bs))
end Go.Proofs.Ytppcccocnmhbgaa
