/- Bits in bytes, the highest first. -/
import Derived.Test.YtlagngkafllbiaaA5
import Derived.Laws.BitsAllLaws
set_option linter.unusedSimpArgs false
set_option linter.unusedVariables false
namespace Go.Proofs.Ytlagngkafllbiaa
open Go Go.RowKit
def b8 (f : Nat → Bool) : UInt8 := (if f 0 then 128 else 0) ||| (if f 1 then 64 else 0) ||| (if f 2 then 32 else 0) ||| (if f 3 then 16 else 0) ||| (if f 4 then 8 else 0) ||| (if f 5 then 4 else 0) ||| (if f 6 then 2 else 0) ||| (if f 7 then 1 else 0)
def bitsB (n : Nat) (f : Nat → Bool) : List UInt8 := (List.range ((n + 7) / 8)).map fun j => b8 fun k => f (8 * j + k)
theorem bitsB_len (n : Nat) (f : Nat → Bool) : (bitsB n f).length = (n + 7) / 8 := by simp [bitsB]
theorem b8_congr {f g : Nat → Bool} (h : ∀ i, i < 8 → f i = g i) : b8 f = b8 g := by
  unfold b8; rw [h 0 (by decide), h 1 (by decide), h 2 (by decide), h 3 (by decide), h 4 (by decide), h 5 (by decide), h 6 (by decide), h 7 (by decide)]
def b8x (x0 x1 x2 x3 x4 x5 x6 x7 : Bool) : UInt8 := (if x0 then 128 else 0) ||| (if x1 then 64 else 0) ||| (if x2 then 32 else 0) ||| (if x3 then 16 else 0) ||| (if x4 then 8 else 0) ||| (if x5 then 4 else 0) ||| (if x6 then 2 else 0) ||| (if x7 then 1 else 0)
theorem b8_x (f : Nat → Bool) : b8 f = b8x (f 0) (f 1) (f 2) (f 3) (f 4) (f 5) (f 6) (f 7) := rfl
set_option maxRecDepth 100000 in
theorem b8x_set : ∀ x0 x1 x2 x3 x4 x5 x6 x7 : Bool, (b8x x0 x1 x2 x3 x4 x5 x6 x7 ||| 128 = b8x true x1 x2 x3 x4 x5 x6 x7) ∧ (b8x x0 x1 x2 x3 x4 x5 x6 x7 ||| 64 = b8x x0 true x2 x3 x4 x5 x6 x7) ∧ (b8x x0 x1 x2 x3 x4 x5 x6 x7 ||| 32 = b8x x0 x1 true x3 x4 x5 x6 x7) ∧ (b8x x0 x1 x2 x3 x4 x5 x6 x7 ||| 16 = b8x x0 x1 x2 true x4 x5 x6 x7)
    ∧ (b8x x0 x1 x2 x3 x4 x5 x6 x7 ||| 8 = b8x x0 x1 x2 x3 true x5 x6 x7) ∧ (b8x x0 x1 x2 x3 x4 x5 x6 x7 ||| 4 = b8x x0 x1 x2 x3 x4 true x6 x7) ∧ (b8x x0 x1 x2 x3 x4 x5 x6 x7 ||| 2 = b8x x0 x1 x2 x3 x4 x5 true x7) ∧ (b8x x0 x1 x2 x3 x4 x5 x6 x7 ||| 1 = b8x x0 x1 x2 x3 x4 x5 x6 true) := by decide +kernel
theorem b8_set (f : Nat → Bool) (m : Nat) (hm : m < 8) : b8 f ||| UInt8.ofNat (128 / 2 ^ m) = b8 fun k => f k || decide (k = m) := by
  obtain ⟨h0, h1, h2, h3, h4, h5, h6, h7⟩ := b8x_set (f 0) (f 1) (f 2) (f 3) (f 4) (f 5) (f 6) (f 7)
  rw [b8_x, b8_x]
  match m, hm with
  | 0, _ => simpa using h0
  | 1, _ => simpa using h1
  | 2, _ => simpa using h2
  | 3, _ => simpa using h3
  | 4, _ => simpa using h4
  | 5, _ => simpa using h5
  | 6, _ => simpa using h6
  | 7, _ => simpa using h7
/-- A bit of a byte. -/
def bitAt (c : UInt8) (m : Nat) : Bool := (c &&& UInt8.ofNat (128 / 2 ^ m)) != 0
set_option maxRecDepth 100000 in
theorem b8x_get : ∀ x0 x1 x2 x3 x4 x5 x6 x7 : Bool, bitAt (b8x x0 x1 x2 x3 x4 x5 x6 x7) 0 = x0 ∧ bitAt (b8x x0 x1 x2 x3 x4 x5 x6 x7) 1 = x1 ∧ bitAt (b8x x0 x1 x2 x3 x4 x5 x6 x7) 2 = x2 ∧ bitAt (b8x x0 x1 x2 x3 x4 x5 x6 x7) 3 = x3
    ∧ bitAt (b8x x0 x1 x2 x3 x4 x5 x6 x7) 4 = x4 ∧ bitAt (b8x x0 x1 x2 x3 x4 x5 x6 x7) 5 = x5 ∧ bitAt (b8x x0 x1 x2 x3 x4 x5 x6 x7) 6 = x6 ∧ bitAt (b8x x0 x1 x2 x3 x4 x5 x6 x7) 7 = x7 := by decide +kernel
theorem b8_get (f : Nat → Bool) (m : Nat) (hm : m < 8) : bitAt (b8 f) m = f m := by
  obtain ⟨h0, h1, h2, h3, h4, h5, h6, h7⟩ := b8x_get (f 0) (f 1) (f 2) (f 3) (f 4) (f 5) (f 6) (f 7)
  rw [b8_x]
  match m, hm with
  | 0, _ => exact h0
  | 1, _ => exact h1
  | 2, _ => exact h2
  | 3, _ => exact h3
  | 4, _ => exact h4
  | 5, _ => exact h5
  | 6, _ => exact h6
  | 7, _ => exact h7
theorem bitsB_get (n : Nat) (f : Nat → Bool) (j : Nat) (hj : j < (n + 7) / 8) : (bitsB n f).getD j 0 = b8 fun k => f (8 * j + k) := by
  simp [bitsB, List.getD, List.getElem?_range, hj]
theorem bitsB_bit (n : Nat) (f : Nat → Bool) (t : Nat) (ht : t < n) : bitAt ((bitsB n f).getD (t / 8) 0) (t % 8) = f t := by
  rw [bitsB_get n f _ (by omega), b8_get _ _ (by omega)]
  congr 1; omega
theorem bitsB_congr {n : Nat} {f g : Nat → Bool} (h : ∀ t, t < 8 * ((n + 7) / 8) → f t = g t) : bitsB n f = bitsB n g := by
  unfold bitsB
  refine List.map_congr_left fun j hj => ?_
  have hj := List.mem_range.1 hj
  exact b8_congr fun i hi => h _ (by omega)
theorem bitsB_zero (n : Nat) (f : Nat → Bool) : List.replicate ((n + 7) / 8) 0 = bitsB n (fun t => decide (t < 0) && f t) := by
  unfold bitsB
  rw [List.map_congr_left (g := fun _ => (0 : UInt8)) (fun j _ => by simp [b8]), List.map_const', List.length_range]
theorem u8_or_of (x y : Nat) (hx : x < 256) (hy : y < 256) : UInt8.ofNat (bits .or .u8 (x : Int) (y : Int)).toNat = UInt8.ofNat x ||| UInt8.ofNat y := by
  rw [u8_or_nat x y hx hy, Int.toNat_natCast]
  apply UInt8.toNat_inj.1
  rw [UInt8.toNat_or, UInt8.toNat_ofNat', UInt8.toNat_ofNat', UInt8.toNat_ofNat', Nat.mod_eq_of_lt hx, Nat.mod_eq_of_lt hy, Nat.mod_eq_of_lt]
  exact Nat.or_lt_two_pow (n := 8) (by omega) (by omega)
theorem pow128 (m : Nat) : 128 / 2 ^ m < 256 := Nat.lt_of_le_of_lt (Nat.div_le_self _ _) (by decide)
theorem bit_step (n : Nat) (f : Nat → Bool) (k : Nat) (hk : k < n) (hf : f k = true) :
    (bitsB n fun t => decide (t < k) && f t).set (k / 8) (UInt8.ofNat (bits .or .u8 ((((bitsB n fun t => decide (t < k) && f t).getD (k / 8) 0).toNat : Nat) : Int) (128 / 2 ^ (k % 8))).toNat) = bitsB n fun t => decide (t < k + 1) && f t := by
  have e : (128 / 2 ^ (k % 8) : Int) = ((128 / 2 ^ (k % 8) : Nat) : Int) := by rw [Int.natCast_ediv, Int.natCast_pow]; rfl
  rw [e, u8_or_of _ _ (UInt8.toNat_lt _) (pow128 _), UInt8.ofNat_toNat, bitsB_get n _ _ (by omega), b8_set _ _ (by omega)]
  apply List.ext_getElem
  · rw [List.length_set, bitsB_len, bitsB_len]
  · intro j h1 h2
    rw [bitsB_len] at h2
    rw [List.getElem_set]
    have e2 : (bitsB n fun t => decide (t < k + 1) && f t)[j] = b8 fun i => decide (8 * j + i < k + 1) && f (8 * j + i) := by simp [bitsB]
    rw [e2]
    split
    · rename_i hj
      subst hj
      refine b8_congr fun i hi => ?_
      by_cases hi2 : i = k % 8
      · have h3 : 8 * (k / 8) + i = k := by omega
        rw [h3, hf]; simp [hi2]
      · have : decide (8 * (k / 8) + i < k + 1) = decide (8 * (k / 8) + i < k) := by congr 1; apply propext; omega
        rw [this]; simp [hi2]
    · rename_i hj
      have e3 : (bitsB n fun t => decide (t < k) && f t)[j]'(by rw [bitsB_len]; omega) = b8 fun i => decide (8 * j + i < k) && f (8 * j + i) := by simp [bitsB]
      rw [e3]
      refine b8_congr fun i hi => ?_
      have : decide (8 * j + i < k + 1) = decide (8 * j + i < k) := by congr 1; apply propext; omega
      rw [this]
theorem bit_skip (n : Nat) (f : Nat → Bool) (k : Nat) (hf : f k = false) : (bitsB n fun t => decide (t < k + 1) && f t) = bitsB n fun t => decide (t < k) && f t := by
  refine bitsB_congr fun t ht => ?_
  by_cases h : t = k
  · subst h; simp [hf]
  · have : decide (t < k + 1) = decide (t < k) := by congr 1; apply propext; omega
    rw [this]
theorem or_rng0 (x y : Int) : (0 ≤ bits .or .u8 x y) = True := eq_true (by
  show 0 ≤ IntKind.u8.wrap _
  rw [IntKind.wrap_u8]; omega)
theorem or_rng1 (x y : Int) : (bits .or .u8 x y ≤ 255) = True := eq_true (by
  show IntKind.u8.wrap _ ≤ 255
  rw [IntKind.wrap_u8]; omega)
theorem and_bit (c : UInt8) (m : Nat) : (!decide (bits .and .u8 (c.toNat : Int) (128 / 2 ^ m) = 0)) = bitAt c m := by
  have e : (128 / 2 ^ m : Int) = ((128 / 2 ^ m : Nat) : Int) := by rw [Int.natCast_ediv, Int.natCast_pow]; rfl
  have h : bits .and .u8 (c.toNat : Int) (128 / 2 ^ m) = (((c &&& UInt8.ofNat (128 / 2 ^ m)).toNat : Nat) : Int) := by
    rw [e, u8_and_nat _ _ (UInt8.toNat_lt _) (pow128 _), UInt8.toNat_and, UInt8.toNat_ofNat', Nat.mod_eq_of_lt (pow128 _)]
  rw [h]
  unfold bitAt
  by_cases h0 : c &&& UInt8.ofNat (128 / 2 ^ m) = 0
  · simp [h0]
  · have h1 : (c &&& UInt8.ofNat (128 / 2 ^ m)).toNat ≠ 0 := fun e => h0 (UInt8.toNat_inj.1 (by simpa using e))
    have h2 : (((c &&& UInt8.ofNat (128 / 2 ^ m)).toNat : Nat) : Int) ≠ 0 := by omega
    rw [decide_eq_false h2]; simpa using h0
end Go.Proofs.Ytlagngkafllbiaa
