import Derived.WalkKit
import Derived.Test.YtpeefeioccglcaaSha
import Derived.WalkSpells
import Derived.WalkLawsBesides
set_option linter.unusedSimpArgs false
set_option linter.unusedVariables false
namespace Go.Proofs.Ytpeefeioccglcaa
open Go
/-- a word's number, closed to simp -/
def n32 (x : BitVec 32) : Int := (x.toNat : Int)
theorem n32_lo (x : BitVec 32) : 0 ≤ n32 x := Int.natCast_nonneg _
theorem n32_hi (x : BitVec 32) : n32 x ≤ 4294967295 := by have := x.isLt; unfold n32; omega
theorem u32_xor (x y : BitVec 32) : bits .xor .u32 (n32 x) (n32 y) = n32 (x ^^^ y) := by
  unfold n32; rw [u32_xor_nat _ _ x.isLt y.isLt, BitVec.toNat_xor]
theorem u32_and (x y : BitVec 32) : bits .and .u32 (n32 x) (n32 y) = n32 (x &&& y) := by
  unfold n32; rw [u32_and_nat _ _ x.isLt y.isLt, BitVec.toNat_and]
theorem u32_or (x y : BitVec 32) : bits .or .u32 (n32 x) (n32 y) = n32 (x ||| y) := by
  unfold n32; rw [u32_or_nat _ _ x.isLt y.isLt, BitVec.toNat_or]
theorem u32_add (x y : BitVec 32) : IntKind.u32.wrap (n32 x + n32 y) = n32 (x + y) := by
  unfold n32; rw [IntKind.wrap_u32', BitVec.toNat_add]; omega
theorem u32_add' (x y : BitVec 32) : (n32 x + n32 y) % (4294967296 : Int) = n32 (x + y) := by
  unfold n32; rw [BitVec.toNat_add]; omega
theorem u32_sum3 (a b c : BitVec 32) : (n32 a + n32 b + n32 c) % (4294967296 : Int) = n32 (a + b + c) := by
  unfold n32; simp only [BitVec.toNat_add]; omega
theorem u32_sum4 (a b c d : BitVec 32) : (n32 a + n32 b + n32 c + n32 d) % (4294967296 : Int) = n32 (a + b + c + d) := by
  unfold n32; simp only [BitVec.toNat_add]; omega
theorem u32_sum5 (a b c d e : BitVec 32) : (n32 a + n32 b + n32 c + n32 d + n32 e) % (4294967296 : Int) = n32 (a + b + c + d + e) := by
  unfold n32; simp only [BitVec.toNat_add]; omega
theorem u32_sum14 (a b c d e : BitVec 32) : (n32 e + (n32 a + n32 b + n32 c + n32 d)) % (4294967296 : Int) = n32 (e + (a + b + c + d)) := by
  unfold n32; simp only [BitVec.toNat_add]; omega
theorem u32_next (x : BitVec 32) (b : UInt8) : (n32 x * (256 : Int) + (b.toNat : Int)) % (4294967296 : Int) = n32 (x <<< 8 + BitVec.ofNat 32 b.toNat) := by
  have := b.toNat_lt
  unfold n32; rw [BitVec.toNat_add, BitVec.toNat_shiftLeft, Nat.shiftLeft_eq, BitVec.toNat_ofNat]; omega
theorem u32_not (x : BitVec 32) : bits .xor .u32 (4294967295 : Int) (n32 x) = n32 (~~~ x) := by
  have : (4294967295 : Int) = n32 (BitVec.allOnes 32) := by decide
  rw [this, u32_xor, BitVec.allOnes_xor]
theorem u32_not' (x : BitVec 32) : bits .xor .u32 IntKind.u32.max (n32 x) = n32 (~~~ x) := u32_not x
theorem u32_not2 (x : BitVec 32) : bits .xor .u32 (if IntKind.u32.signed = true then (-1 : Int) else IntKind.u32.max) (n32 x) = n32 (~~~ x) := u32_not x
theorem u32_shr (x : BitVec 32) (n : Nat) : n32 x / ((2 : Int) ^ n) = n32 (x >>> n) := by
  unfold n32; rw [BitVec.toNat_ushiftRight, Nat.shiftRight_eq_div_pow, Int.natCast_ediv, Int.natCast_pow]; rfl
theorem u32_shl (x : BitVec 32) (n : Nat) : (n32 x * (2 : Int) ^ n) % 4294967296 = n32 (x <<< n) := by
  unfold n32; rw [BitVec.toNat_shiftLeft, Nat.shiftLeft_eq, Int.natCast_emod, Int.natCast_mul, Int.natCast_pow]; rfl
theorem u32_shl' (x : BitVec 32) (n : Nat) : IntKind.u32.wrap (n32 x * (2 : Int) ^ n) = n32 (x <<< n) := by
  rw [IntKind.wrap_u32', u32_shl]
theorem u32_shr10 (x : BitVec 32) : n32 x / (1024 : Int) = n32 (x >>> 10) := by rw [← u32_shr]; rfl
theorem u32_shr3 (x : BitVec 32) : n32 x / (8 : Int) = n32 (x >>> 3) := by rw [← u32_shr]; rfl
/-- Four bytes make a word. -/
theorem or_bytes (x0 x1 x2 x3 : UInt8) : bits .or .u32 (bits .or .u32 (bits .or .u32 ((x0.toNat : Int) * (16777216:Int)) ((x1.toNat : Int) * (65536:Int))) ((x2.toNat : Int) * (256:Int))) (x3.toNat : Int) =
    n32 (word4 x0 x1 x2 x3) := by
  show _ = ((BitVec.ofNat 32 (x0.toNat * 16777216 + x1.toNat * 65536 + x2.toNat * 256 + x3.toNat)).toNat : Int)
  have h0 := x0.toNat_lt; have h1 := x1.toNat_lt; have h2 := x2.toNat_lt; have h3 := x3.toNat_lt
  have e0 : ((x0.toNat : Int) * (16777216 : Int)) = ((x0.toNat <<< 24 : Nat) : Int) := by rw [Nat.shiftLeft_eq]; omega
  have e1 : ((x1.toNat : Int) * (65536 : Int)) = ((x1.toNat <<< 16 : Nat) : Int) := by rw [Nat.shiftLeft_eq]; omega
  have e2 : ((x2.toNat : Int) * (256 : Int)) = ((x2.toNat <<< 8 : Nat) : Int) := by rw [Nat.shiftLeft_eq]; omega
  have a1 : x0.toNat <<< 24 ||| x1.toNat <<< 16 = x0.toNat <<< 24 + x1.toNat <<< 16 := by
    rw [← Nat.shiftLeft_add_eq_or_of_lt]; rw [Nat.shiftLeft_eq]; omega
  have a2 : (x0.toNat <<< 24 + x1.toNat <<< 16) ||| x2.toNat <<< 8 = x0.toNat <<< 24 + x1.toNat <<< 16 + x2.toNat <<< 8 := by
    have : x0.toNat <<< 24 + x1.toNat <<< 16 = (x0.toNat * 256 + x1.toNat) <<< 16 := by simp only [Nat.shiftLeft_eq]; omega
    rw [this, ← Nat.shiftLeft_add_eq_or_of_lt]; rw [Nat.shiftLeft_eq]; omega
  have a3 : (x0.toNat <<< 24 + x1.toNat <<< 16 + x2.toNat <<< 8) ||| x3.toNat = x0.toNat <<< 24 + x1.toNat <<< 16 + x2.toNat <<< 8 + x3.toNat := by
    have : x0.toNat <<< 24 + x1.toNat <<< 16 + x2.toNat <<< 8 = ((x0.toNat * 256 + x1.toNat) * 256 + x2.toNat) <<< 8 := by simp only [Nat.shiftLeft_eq]; omega
    rw [this, ← Nat.shiftLeft_add_eq_or_of_lt]; omega
  have b0 : x0.toNat <<< 24 < 4294967296 := by rw [Nat.shiftLeft_eq]; omega
  have b1 : x1.toNat <<< 16 < 4294967296 := by rw [Nat.shiftLeft_eq]; omega
  have b2 : x2.toNat <<< 8 < 4294967296 := by rw [Nat.shiftLeft_eq]; omega
  have c1 : x0.toNat <<< 24 + x1.toNat <<< 16 < 4294967296 := by simp only [Nat.shiftLeft_eq]; omega
  have c2 : x0.toNat <<< 24 + x1.toNat <<< 16 + x2.toNat <<< 8 < 4294967296 := by simp only [Nat.shiftLeft_eq]; omega
  rw [e0, e1, e2, u32_or_nat _ _ b0 b1, a1, u32_or_nat _ _ c1 b2, a2, u32_or_nat _ _ c2 (by omega), a3]
  rw [BitVec.toNat_ofNat, Nat.mod_eq_of_lt (by omega)]
  simp only [Nat.shiftLeft_eq]
end Go.Proofs.Ytpeefeioccglcaa
