/-
  Sha: PLAIN LAW, no program in sight: SHA-256 on lists of bytes, as words of 32 bits; conditions: none.
-/
import Derived.Test.YtfahbdakhbpfcaaGreatM1
import Derived.WalkKit
namespace Go.Proofs.YtfahbdakhbpfcaaGreat.Sha

abbrev U := BitVec 32
/-- a word, a byte as a value of the program -/
abbrev uv (x : U) : Value := .int .u32 (x.toNat : Int)
abbrev bv (b : UInt8) : Value := .int .u8 (b.toNat : Int)

def rot (x : U) (n : Nat) : U := x >>> n ||| x <<< (32 - n)
def S0 (a : U) : U := rot a 2 ^^^ rot a 13 ^^^ rot a 22
def S1 (e : U) : U := rot e 6 ^^^ rot e 11 ^^^ rot e 25
def s0 (x : U) : U := rot x 7 ^^^ rot x 18 ^^^ x >>> 3
def s1 (x : U) : U := rot x 17 ^^^ rot x 19 ^^^ x >>> 10
def ch (e f g : U) : U := (e &&& f) ^^^ (~~~e &&& g)
def maj (a b c : U) : U := (a &&& b) ^^^ (a &&& c) ^^^ (b &&& c)

structure St where
  a : U
  b : U
  c : U
  d : U
  e : U
  f : U
  g : U
  h : U

def St.cells (s : St) : Array Value := #[uv s.a, uv s.b, uv s.c, uv s.d, uv s.e, uv s.f, uv s.g, uv s.h]

def tmp1 (s : St) (kw : U) : U := s.h + S1 s.e + ch s.e s.f s.g + kw
def tmp2 (s : St) : U := S0 s.a + maj s.a s.b s.c
def step (s : St) (kw : U) : St := ⟨tmp1 s kw + tmp2 s, s.a, s.b, s.c, s.d + tmp1 s kw, s.e, s.f, s.g⟩

def init : St := ⟨0x6a09e667, 0xbb67ae85, 0x3c6ef372, 0xa54ff53a, 0x510e527f, 0x9b05688c, 0x1f83d9ab, 0x5be0cd19⟩

def kList : List U := [
  0x428a2f98, 0x71374491, 0xb5c0fbcf, 0xe9b5dba5, 0x3956c25b, 0x59f111f1, 0x923f82a4, 0xab1c5ed5,
  0xd807aa98, 0x12835b01, 0x243185be, 0x550c7dc3, 0x72be5d74, 0x80deb1fe, 0x9bdc06a7, 0xc19bf174,
  0xe49b69c1, 0xefbe4786, 0x0fc19dc6, 0x240ca1cc, 0x2de92c6f, 0x4a7484aa, 0x5cb0a9dc, 0x76f988da,
  0x983e5152, 0xa831c66d, 0xb00327c8, 0xbf597fc7, 0xc6e00bf3, 0xd5a79147, 0x06ca6351, 0x14292967,
  0x27b70a85, 0x2e1b2138, 0x4d2c6dfc, 0x53380d13, 0x650a7354, 0x766a0abb, 0x81c2c92e, 0x92722c85,
  0xa2bfe8a1, 0xa81a664b, 0xc24b8b70, 0xc76c51a3, 0xd192e819, 0xd6990624, 0xf40e3585, 0x106aa070,
  0x19a4c116, 0x1e376c08, 0x2748774c, 0x34b0bcb5, 0x391c0cb3, 0x4ed8aa4a, 0x5b9cca4f, 0x682e6ff3,
  0x748f82ee, 0x78a5636f, 0x84c87814, 0x8cc70208, 0x90befffa, 0xa4506ceb, 0xbef9a3f7, 0xc67178f2]
def K (t : Nat) : U := kList.getD t 0

/-- byte i of a list, nought behind its end -/
def at8 (l : List UInt8) (i : Nat) : UInt8 := l.getD i 0
def be32 (l : List UInt8) (i : Nat) : U :=
  BitVec.ofNat 32 ((at8 l (4 * i)).toNat * 16777216 + (at8 l (4 * i + 1)).toNat * 65536 + (at8 l (4 * i + 2)).toNat * 256 + (at8 l (4 * i + 3)).toNat)

def W (l : List UInt8) (t : Nat) : U :=
  if t < 16 then be32 l t else s1 (W l (t - 2)) + W l (t - 7) + s0 (W l (t - 15)) + W l (t - 16)
  termination_by t
  decreasing_by all_goals omega

theorem W_lt (l : List UInt8) (t : Nat) (h : t < 16) : W l t = be32 l t := by rw [W, if_pos h]
theorem W_ge (l : List UInt8) (t : Nat) (h : 16 ≤ t) : W l t = s1 (W l (t - 2)) + W l (t - 7) + s0 (W l (t - 15)) + W l (t - 16) := by
  rw [W, if_neg (by omega)]

def rounds (l : List UInt8) (s : St) : Nat → St
  | 0 => s
  | t + 1 => step (rounds l s t) (K t + W l t)

def add (s x : St) : St := ⟨s.a + x.a, s.b + x.b, s.c + x.c, s.d + x.d, s.e + x.e, s.f + x.f, s.g + x.g, s.h + x.h⟩
def mix (s : St) (l : List UInt8) : St := add s (rounds l s 64)

def absorb (s : St) (l : List UInt8) : St :=
  if 64 ≤ l.length then absorb (mix s (l.take 64)) (l.drop 64) else s
  termination_by l.length
  decreasing_by simp; omega

theorem absorb_ge (s : St) (l : List UInt8) (h : 64 ≤ l.length) : absorb s l = absorb (mix s (l.take 64)) (l.drop 64) := by
  rw [absorb, if_pos h]
theorem absorb_lt (s : St) (l : List UInt8) (h : l.length < 64) : absorb s l = s := by
  rw [absorb, if_neg (by omega)]

/-- what is left of a list when whole blocks are gone -/
def left (l : List UInt8) : List UInt8 := l.drop (64 * (l.length / 64))

theorem left_lt (l : List UInt8) (h : l.length < 64) : left l = l := by
  unfold left
  rw [Nat.div_eq_of_lt h]
  simp
theorem left_ge (l : List UInt8) (h : 64 ≤ l.length) : left (l.drop 64) = left l := by
  unfold left
  rw [List.drop_drop, List.length_drop]
  congr 1
  omega

theorem absorb_append (l : List UInt8) : ∀ (s : St) (p : List UInt8), absorb s (l ++ p) = absorb (absorb s l) (left l ++ p) := by
  induction hn : l.length using Nat.strongRecOn generalizing l with
  | _ n ih =>
    intro s p
    by_cases h : 64 ≤ l.length
    · rw [absorb_ge s l h, absorb_ge s (l ++ p) (by simp; omega)]
      rw [List.take_append_of_le_length h, List.drop_append_of_le_length h]
      rw [ih (l.length - 64) (by omega) (l.drop 64) (by simp) _ p, left_ge l h]
    · rw [absorb_lt s l (by omega), left_lt l (by omega)]

def be64 (n : Nat) : List UInt8 :=
  [UInt8.ofNat (n / 72057594037927936), UInt8.ofNat (n / 281474976710656), UInt8.ofNat (n / 1099511627776), UInt8.ofNat (n / 4294967296),
   UInt8.ofNat (n / 16777216), UInt8.ofNat (n / 65536), UInt8.ofNat (n / 256), UInt8.ofNat n]
def zeros (n : Nat) : Nat := (119 - n % 64) % 64
def pad (n : Nat) : List UInt8 := (128 :: List.replicate (zeros n) 0) ++ be64 (n * 8)

def be (x : U) : List UInt8 := [UInt8.ofNat (x.toNat / 16777216), UInt8.ofNat (x.toNat / 65536), UInt8.ofNat (x.toNat / 256), UInt8.ofNat x.toNat]
def St.bytes (s : St) : List UInt8 := be s.a ++ be s.b ++ be s.c ++ be s.d ++ be s.e ++ be s.f ++ be s.g ++ be s.h
def digest (l : List UInt8) : List UInt8 := (absorb init (l ++ pad l.length)).bytes

theorem be_length (x : U) : (be x).length = 4 := rfl
theorem bytes_length (s : St) : s.bytes.length = 32 := rfl
theorem digest_length (l : List UInt8) : (digest l).length = 32 := rfl

theorem zeros_spec (n : Nat) : (n + 1 + zeros n) % 64 = 56 := by unfold zeros; omega
theorem zeros_least (n k : Nat) (h : k < zeros n) : ¬ (n + 1 + k) % 64 = 56 := by unfold zeros at h; omega

/-! the program's operations on words, in the walk's own forms -/
theorem toNat_lt (x : U) : (x.toNat : Int) < 4294967296 := by have := x.isLt; omega
theorem toNat_ge (x : U) : (0 : Int) ≤ x.toNat := Int.natCast_nonneg _

theorem add_w (x y : U) : ((x.toNat : Int) + y.toNat) % 4294967296 = ((x + y).toNat : Int) := by
  rw [BitVec.toNat_add]
  omega
theorem xor_w (x y : U) : bits .xor .u32 (x.toNat : Int) (y.toNat : Int) = ((x ^^^ y).toNat : Int) := by
  rw [u32_xor_nat _ _ (by have := x.isLt; omega) (by have := y.isLt; omega), BitVec.toNat_xor]
theorem and_w (x y : U) : bits .and .u32 (x.toNat : Int) (y.toNat : Int) = ((x &&& y).toNat : Int) := by
  rw [u32_and_nat _ _ (by have := x.isLt; omega) (by have := y.isLt; omega), BitVec.toNat_and]
theorem or_w (x y : U) : bits .or .u32 (x.toNat : Int) (y.toNat : Int) = ((x ||| y).toNat : Int) := by
  rw [u32_or_nat _ _ (by have := x.isLt; omega) (by have := y.isLt; omega), BitVec.toNat_or]
theorem shr_w (x : U) (n : Nat) : (x.toNat : Int) / (2 ^ n : Nat) = ((x >>> n).toNat : Int) := by
  rw [BitVec.toNat_ushiftRight, Nat.shiftRight_eq_div_pow]
  simp
theorem shl_w (x : U) (n : Nat) : (x.toNat : Int) * (2 ^ n : Nat) % 4294967296 = ((x <<< n).toNat : Int) := by
  rw [BitVec.toNat_shiftLeft, Nat.shiftLeft_eq]
  have : (x.toNat : Int) * (2 ^ n : Nat) = ((x.toNat * 2 ^ n : Nat) : Int) := by simp
  rw [this]
  omega
end Go.Proofs.YtfahbdakhbpfcaaGreat.Sha
