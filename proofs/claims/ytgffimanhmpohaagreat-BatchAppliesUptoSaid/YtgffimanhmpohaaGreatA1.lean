/- Closed facts of the program, each by itself: what a statement's form asks of it. -/
import Derived.Test.YtgffimanhmpohaaGreatRows
import Derived.KernelRfl
import Derived.WalkKit
import Derived.WalkSpells
import Derived.WalkLawsBesides
import Derived.Orders
import Derived.Deep.Quiet
import Derived.Deep.Draws
import Derived.Tactics
import Derived.Tactics2
import Derived.Laws.CopyOwn
import Derived.Deep.MidRow
import Derived.Test.YtgffimanhmpohaaGreatProg
import Derived.Lib.Hide
set_option linter.unusedSimpArgs false
set_option linter.unusedVariables false
namespace Go.Proofs.YtgffimanhmpohaaGreat.facts
open Go
def dflt : OpenClaim := { program := "", sum := "", func := "", spec := "" }
set_option maxRecDepth 100000
theorem laid : laidOutB Tryz.prog = true := by kernel_rfl
theorem maps : mapsRowed Tryz.prog = true := by kernel_rfl
theorem heard : Tryz.prog.stopsHeard = true := by kernel_rfl
theorem enter : Tryz.prog.mayEnter = true := by kernel_rfl
theorem lifts : Tryz.prog.liftsFinal = dflt.lifted := by kernel_rfl
theorem made : Tryz.prog.make = some dflt.make := by kernel_rfl
theorem own : ownKnob Tryz.prog.godebug = none := by kernel_rfl
end Go.Proofs.YtgffimanhmpohaaGreat.facts
namespace Go.Proofs.YtgffimanhmpohaaGreat
structure S8 where
  a : BitVec 32
  b : BitVec 32
  c : BitVec 32
  d : BitVec 32
  e : BitVec 32
  f : BitVec 32
  g : BitVec 32
  h : BitVec 32
def ror (x : BitVec 32) (k : Nat) : BitVec 32 := x <<< (32 - k) ||| x >>> k
def kList : List (BitVec 32) := [0x428a2f98#32, 0x71374491#32, 0xb5c0fbcf#32, 0xe9b5dba5#32, 0x3956c25b#32, 0x59f111f1#32, 0x923f82a4#32, 0xab1c5ed5#32,
  0xd807aa98#32, 0x12835b01#32, 0x243185be#32, 0x550c7dc3#32, 0x72be5d74#32, 0x80deb1fe#32, 0x9bdc06a7#32, 0xc19bf174#32,
  0xe49b69c1#32, 0xefbe4786#32, 0x0fc19dc6#32, 0x240ca1cc#32, 0x2de92c6f#32, 0x4a7484aa#32, 0x5cb0a9dc#32, 0x76f988da#32,
  0x983e5152#32, 0xa831c66d#32, 0xb00327c8#32, 0xbf597fc7#32, 0xc6e00bf3#32, 0xd5a79147#32, 0x06ca6351#32, 0x14292967#32,
  0x27b70a85#32, 0x2e1b2138#32, 0x4d2c6dfc#32, 0x53380d13#32, 0x650a7354#32, 0x766a0abb#32, 0x81c2c92e#32, 0x92722c85#32,
  0xa2bfe8a1#32, 0xa81a664b#32, 0xc24b8b70#32, 0xc76c51a3#32, 0xd192e819#32, 0xd6990624#32, 0xf40e3585#32, 0x106aa070#32,
  0x19a4c116#32, 0x1e376c08#32, 0x2748774c#32, 0x34b0bcb5#32, 0x391c0cb3#32, 0x4ed8aa4a#32, 0x5b9cca4f#32, 0x682e6ff3#32,
  0x748f82ee#32, 0x78a5636f#32, 0x84c87814#32, 0x8cc70208#32, 0x90befffa#32, 0xa4506ceb#32, 0xbef9a3f7#32, 0xc67178f2#32]
def h0 : S8 := ⟨0x6a09e667#32, 0xbb67ae85#32, 0x3c6ef372#32, 0xa54ff53a#32, 0x510e527f#32, 0x9b05688c#32, 0x1f83d9ab#32, 0x5be0cd19#32⟩
def word4 (a b c d : UInt8) : BitVec 32 := BitVec.ofNat 32 (a.toNat * 16777216 + b.toNat * 65536 + c.toNat * 256 + d.toNat)
def wordAt (l : List UInt8) (i : Nat) : BitVec 32 := word4 (l.getD (4 * i) 0) (l.getD (4 * i + 1) 0) (l.getD (4 * i + 2) 0) (l.getD (4 * i + 3) 0)
def words (l : List UInt8) (n : Nat) : List (BitVec 32) := (List.range n).map (wordAt l)
theorem words_length (l : List UInt8) (n : Nat) : (words l n).length = n := by simp [words]
theorem words_succ (l : List UInt8) (n : Nat) : words l (n + 1) = words l n ++ [wordAt l n] := by simp [words, List.range_succ]
def sg0 (x : BitVec 32) : BitVec 32 := ror x 7 ^^^ ror x 18 ^^^ x >>> 3
def sg1 (x : BitVec 32) : BitVec 32 := ror x 17 ^^^ ror x 19 ^^^ x >>> 10
def nextWord (s : List (BitVec 32)) : BitVec 32 :=
  sg1 (s.getD (s.length - 2) 0) + s.getD (s.length - 7) 0 + sg0 (s.getD (s.length - 15) 0) + s.getD (s.length - 16) 0
def sched (m : List (BitVec 32)) : Nat → List (BitVec 32)
  | 0 => m
  | n + 1 => sched m n ++ [nextWord (sched m n)]
theorem sched_length (m : List (BitVec 32)) (n : Nat) : (sched m n).length = m.length + n := by
  induction n with
  | zero => rfl
  | succ n ih => simp [sched, ih]; omega
def rnd (k w : BitVec 32) (s : S8) : S8 :=
  let one := s.h + (ror s.e 6 ^^^ ror s.e 11 ^^^ ror s.e 25) + (s.e &&& s.f ^^^ ~~~s.e &&& s.g) + k + w
  let two := (ror s.a 2 ^^^ ror s.a 13 ^^^ ror s.a 22) + (s.a &&& s.b ^^^ s.a &&& s.c ^^^ s.b &&& s.c)
  ⟨one + two, s.a, s.b, s.c, s.d + one, s.e, s.f, s.g⟩
def rnds (ws : List (BitVec 32)) (s : S8) : Nat → S8
  | 0 => s
  | n + 1 => rnd (kList.getD n 0) (ws.getD n 0) (rnds ws s n)
def addS (x y : S8) : S8 := ⟨x.a + y.a, x.b + y.b, x.c + y.c, x.d + y.d, x.e + y.e, x.f + y.f, x.g + y.g, x.h + y.h⟩
def step (s : S8) (l : List UInt8) : S8 := addS s (rnds (sched (words l 16) 48) s 64)
def steps (s : S8) : Nat → List UInt8 → S8
  | 0, _ => s
  | n + 1, l => steps (step s (l.take 64)) n (l.drop 64)
def be (v : Nat) : Nat → List UInt8
  | 0 => []
  | n + 1 => UInt8.ofNat (v / 256 ^ n) :: be v n
def be4 (x : BitVec 32) : List UInt8 := [UInt8.ofNat (x.toNat / 16777216), UInt8.ofNat (x.toNat / 65536), UInt8.ofNat (x.toNat / 256), UInt8.ofNat x.toNat]
def out (s : S8) : List UInt8 := be4 s.a ++ be4 s.b ++ be4 s.c ++ be4 s.d ++ be4 s.e ++ be4 s.f ++ be4 s.g ++ be4 s.h
theorem out_length (s : S8) : (out s).length = 32 := rfl
def padN (n : Nat) : Nat := (119 - n % 64) % 64
def pad (l : List UInt8) : List UInt8 := l ++ [128] ++ List.replicate (padN l.length) 0 ++ be (l.length * 8) 8
def sum (l : List UInt8) : List UInt8 := out (steps h0 ((pad l).length / 64) (pad l))
theorem sum_length (l : List UInt8) : (sum l).length = 32 := rfl
theorem steps_add (s : S8) (m n : Nat) (l : List UInt8) : steps s (m + n) l = steps (steps s m l) n (l.drop (64 * m)) := by
  induction m generalizing s l with
  | zero => simp [steps]
  | succ m ih => rw [show m + 1 + n = (m + n) + 1 by omega, steps, ih, steps, List.drop_drop]; congr 2; omega
theorem steps_take (s : S8) (n k : Nat) (l : List UInt8) (h : 64 * n ≤ k) : steps s n (l.take k) = steps s n l := by
  induction n generalizing s l k with
  | zero => rfl
  | succ n ih =>
    rw [steps, steps, List.take_take, Nat.min_eq_left (by omega), List.drop_take]
    rw [ih _ (k - 64) _ (by omega)]
theorem steps_append (s : S8) (n : Nat) (l r : List UInt8) (h : 64 * n ≤ l.length) : steps s n (l ++ r) = steps s n l := by
  rw [← steps_take s n l.length (l ++ r) h, List.take_left]
theorem words_zero (l : List UInt8) : words l 0 = [] := rfl
theorem wordAt_def (l : List UInt8) (i : Nat) : wordAt l i = word4 (l.getD (4 * i) 0) (l.getD (4 * i + 1) 0) (l.getD (4 * i + 2) 0) (l.getD (4 * i + 3) 0) := rfl
theorem kList_length : kList.length = 64 := rfl
theorem sched_zero (m : List (BitVec 32)) : sched m 0 = m := rfl
theorem sched_succ (m : List (BitVec 32)) (n : Nat) : sched m (n + 1) = sched m n ++ [nextWord (sched m n)] := rfl
theorem rnds_zero (ws : List (BitVec 32)) (s : S8) : rnds ws s 0 = s := rfl
theorem rnds_succ (ws : List (BitVec 32)) (s : S8) (n : Nat) : rnds ws s (n + 1) = rnd (kList.getD n 0) (ws.getD n 0) (rnds ws s n) := rfl
theorem step_def (s : S8) (l : List UInt8) : step s l = addS s (rnds (sched (words l 16) 48) s 64) := rfl
theorem steps_zero (s : S8) (l : List UInt8) : steps s 0 l = s := rfl
theorem steps_succ (s : S8) (n : Nat) (l : List UInt8) : steps s (n + 1) l = steps (step s (l.take 64)) n (l.drop 64) := rfl
theorem pad_length (l : List UInt8) : (pad l).length % 64 = 0 := by
  have hb : (be (l.length * 8) 8).length = 8 := by simp [be]
  simp only [pad, List.length_append, List.length_replicate, List.length_cons, List.length_nil, hb, padN]
  omega
theorem steps_next (s : S8) (q : Nat) (l : List UInt8) : steps s (q + 1) l = step (steps s q l) ((l.drop (64 * q)).take 64) := by
  rw [steps_add, steps_succ, steps_zero]
theorem sum_def (l : List UInt8) : sum l = out (steps h0 ((pad l).length / 64) (pad l)) := rfl
theorem pad_def (l : List UInt8) : pad l = l ++ [128] ++ List.replicate (padN l.length) 0 ++ be (l.length * 8) 8 := rfl
theorem be_length (v n : Nat) : (be v n).length = n := by induction n with | zero => rfl | succ n ih => simp [be, ih]
theorem pad_size (l : List UInt8) : (pad l).length = l.length + 9 + padN l.length := by
  rw [pad_def]; simp only [List.length_append, List.length_replicate, be_length, List.length_cons, List.length_nil]; omega
def S8.l (s : S8) : List (BitVec 32) := [s.a, s.b, s.c, s.d, s.e, s.f, s.g, s.h]
def mix (s r : S8) (k : Nat) : List (BitVec 32) := (List.range 8).map fun j => if j < k then s.l.getD j 0 + r.l.getD j 0 else s.l.getD j 0
theorem mix_zero (s r : S8) : mix s r 0 = s.l := rfl
theorem mix_eight (s r : S8) : mix s r 8 = (addS s r).l := rfl
theorem mix_at (s r : S8) (k : Nat) (h : k < 8) : (mix s r k)[k]? = some (s.l.getD k 0) := by
  simp [mix, h]
theorem mix_set (s r : S8) (k : Nat) (_h : k < 8) : (mix s r k).set k (s.l.getD k 0 + r.l.getD k 0) = mix s r (k + 1) := by
  apply List.ext_getElem
  · simp [mix]
  intro i h1 h2
  have hi : i < 8 := by simpa [mix] using h2
  rw [List.getElem_set]
  by_cases hk : k = i
  · subst hk; simp [mix]
  simp only [if_neg hk, mix, List.getElem_map, List.getElem_range]
  by_cases hlt : i < k
  · rw [if_pos hlt, if_pos (by omega)]
  rw [if_neg hlt, if_neg (by omega)]
theorem out_at (s : S8) (q r : Nat) (hq : q < 8) (hr : r < 4) : (out s)[4 * q + r]? = some (UInt8.ofNat ((s.l.getD q 0).toNat / 256 ^ (3 - r))) := by
  rcases (by omega : q = 0 ∨ q = 1 ∨ q = 2 ∨ q = 3 ∨ q = 4 ∨ q = 5 ∨ q = 6 ∨ q = 7) with rfl | rfl | rfl | rfl | rfl | rfl | rfl | rfl <;>
  rcases (by omega : r = 0 ∨ r = 1 ∨ r = 2 ∨ r = 3) with rfl | rfl | rfl | rfl <;> simp [out, be4, S8.l]
def part (l : List UInt8) (k : Nat) : Nat → BitVec 32
  | 0 => 0
  | i + 1 => part l k i <<< 8 + BitVec.ofNat 32 (l.getD (4 * k + i) 0).toNat
theorem part_zero (l : List UInt8) (k : Nat) : part l k 0 = 0 := rfl
theorem part_succ (l : List UInt8) (k i : Nat) : part l k (i + 1) = part l k i <<< 8 + BitVec.ofNat 32 (l.getD (4 * k + i) 0).toNat := rfl
theorem part_four (l : List UInt8) (k : Nat) : part l k 4 = wordAt l k := by
  have h0 := (l.getD (4 * k + 0) 0).toNat_lt
  have h1 := (l.getD (4 * k + 1) 0).toNat_lt
  have h2 := (l.getD (4 * k + 2) 0).toNat_lt
  have h3 := (l.getD (4 * k + 3) 0).toNat_lt
  rw [part_succ, part_succ, part_succ, part_succ, part_zero, wordAt_def, word4]
  apply BitVec.eq_of_toNat_eq
  simp only [BitVec.toNat_add, BitVec.toNat_shiftLeft, Nat.shiftLeft_eq, BitVec.toNat_ofNat]
  rw [Nat.add_zero] at *
  have hz : (0 : BitVec 32).toNat = 0 := rfl
  rw [hz]
  omega
attribute [irreducible] part
attribute [irreducible] sched rnds step steps words pad sum kList nextWord wordAt
end Go.Proofs.YtgffimanhmpohaaGreat
namespace Go.Proofs.YtgffimanhmpohaaGreat
open Go
def n32 (x : BitVec 32) : Int := (x.toNat : Int)
theorem n32_lo (x : BitVec 32) : 0 ≤ n32 x := Int.natCast_nonneg _
theorem n32_hi (x : BitVec 32) : n32 x ≤ 4294967295 := by have := x.isLt; unfold n32; omega
theorem u32_xor (x y : BitVec 32) : bits .xor .u32 (n32 x) (n32 y) = n32 (x ^^^ y) := by
  unfold n32; rw [u32_xor_nat _ _ x.isLt y.isLt, BitVec.toNat_xor]
theorem u32_and (x y : BitVec 32) : bits .and .u32 (n32 x) (n32 y) = n32 (x &&& y) := by
  unfold n32; rw [u32_and_nat _ _ x.isLt y.isLt, BitVec.toNat_and]
theorem u32_or (x y : BitVec 32) : bits .or .u32 (n32 x) (n32 y) = n32 (x ||| y) := by
  unfold n32; rw [u32_or_nat _ _ x.isLt y.isLt, BitVec.toNat_or]
theorem u32_add (x y : BitVec 32) : IntKind.u32.wrap (n32 x + n32 y) = n32 (x + y) := by
  unfold n32; rw [IntKind.wrap_u32', BitVec.toNat_add]; omega
theorem u32_add' (x y : BitVec 32) : (n32 x + n32 y) % (4294967296 : Int) = n32 (x + y) := by
  unfold n32; rw [BitVec.toNat_add]; omega
theorem u32_sum3 (a b c : BitVec 32) : (n32 a + n32 b + n32 c) % (4294967296 : Int) = n32 (a + b + c) := by
  unfold n32; simp only [BitVec.toNat_add]; omega
theorem u32_sum4 (a b c d : BitVec 32) : (n32 a + n32 b + n32 c + n32 d) % (4294967296 : Int) = n32 (a + b + c + d) := by
  unfold n32; simp only [BitVec.toNat_add]; omega
theorem u32_sum5 (a b c d e : BitVec 32) : (n32 a + n32 b + n32 c + n32 d + n32 e) % (4294967296 : Int) = n32 (a + b + c + d + e) := by
  unfold n32; simp only [BitVec.toNat_add]; omega
theorem u32_sum14 (a b c d e : BitVec 32) : (n32 e + (n32 a + n32 b + n32 c + n32 d)) % (4294967296 : Int) = n32 (e + (a + b + c + d)) := by
  unfold n32; simp only [BitVec.toNat_add]; omega
theorem u32_next (x : BitVec 32) (b : UInt8) : (n32 x * (256 : Int) + (b.toNat : Int)) % (4294967296 : Int) = n32 (x <<< 8 + BitVec.ofNat 32 b.toNat) := by
  have := b.toNat_lt
  unfold n32; rw [BitVec.toNat_add, BitVec.toNat_shiftLeft, Nat.shiftLeft_eq, BitVec.toNat_ofNat]; omega
theorem u32_not (x : BitVec 32) : bits .xor .u32 (4294967295 : Int) (n32 x) = n32 (~~~ x) := by
  have : (4294967295 : Int) = n32 (BitVec.allOnes 32) := by decide
  rw [this, u32_xor, BitVec.allOnes_xor]
theorem u32_not' (x : BitVec 32) : bits .xor .u32 IntKind.u32.max (n32 x) = n32 (~~~ x) := u32_not x
theorem u32_not2 (x : BitVec 32) : bits .xor .u32 (if IntKind.u32.signed = true then (-1 : Int) else IntKind.u32.max) (n32 x) = n32 (~~~ x) := u32_not x
theorem u32_shr (x : BitVec 32) (n : Nat) : n32 x / ((2 : Int) ^ n) = n32 (x >>> n) := by
  unfold n32; rw [BitVec.toNat_ushiftRight, Nat.shiftRight_eq_div_pow, Int.natCast_ediv, Int.natCast_pow]; rfl
theorem u32_shl (x : BitVec 32) (n : Nat) : (n32 x * (2 : Int) ^ n) % 4294967296 = n32 (x <<< n) := by
  unfold n32; rw [BitVec.toNat_shiftLeft, Nat.shiftLeft_eq, Int.natCast_emod, Int.natCast_mul, Int.natCast_pow]; rfl
theorem u32_shr10 (x : BitVec 32) : n32 x / (1024 : Int) = n32 (x >>> 10) := by rw [← u32_shr]; rfl
theorem u32_shr3 (x : BitVec 32) : n32 x / (8 : Int) = n32 (x >>> 3) := by rw [← u32_shr]; rfl
theorem or_bytes (x0 x1 x2 x3 : UInt8) : bits .or .u32 (bits .or .u32 (bits .or .u32 ((x0.toNat : Int) * (16777216:Int)) ((x1.toNat : Int) * (65536:Int))) ((x2.toNat : Int) * (256:Int))) (x3.toNat : Int) =
    n32 (word4 x0 x1 x2 x3) := by
  show _ = ((BitVec.ofNat 32 (x0.toNat * 16777216 + x1.toNat * 65536 + x2.toNat * 256 + x3.toNat)).toNat : Int)
  have h0 := x0.toNat_lt; have h1 := x1.toNat_lt; have h2 := x2.toNat_lt; have h3 := x3.toNat_lt
  have e0 : ((x0.toNat : Int) * (16777216 : Int)) = ((x0.toNat <<< 24 : Nat) : Int) := by rw [Nat.shiftLeft_eq]; omega
  have e1 : ((x1.toNat : Int) * (65536 : Int)) = ((x1.toNat <<< 16 : Nat) : Int) := by rw [Nat.shiftLeft_eq]; omega
  have e2 : ((x2.toNat : Int) * (256 : Int)) = ((x2.toNat <<< 8 : Nat) : Int) := by rw [Nat.shiftLeft_eq]; omega
  have a1 : x0.toNat <<< 24 ||| x1.toNat <<< 16 = x0.toNat <<< 24 + x1.toNat <<< 16 := by
    rw [← Nat.shiftLeft_add_eq_or_of_lt]; rw [Nat.shiftLeft_eq]; omega
  have a2 : (x0.toNat <<< 24 + x1.toNat <<< 16) ||| x2.toNat <<< 8 = x0.toNat <<< 24 + x1.toNat <<< 16 + x2.toNat <<< 8 := by
    have : x0.toNat <<< 24 + x1.toNat <<< 16 = (x0.toNat * 256 + x1.toNat) <<< 16 := by simp only [Nat.shiftLeft_eq]; omega
    rw [this, ← Nat.shiftLeft_add_eq_or_of_lt]; rw [Nat.shiftLeft_eq]; omega
  have a3 : (x0.toNat <<< 24 + x1.toNat <<< 16 + x2.toNat <<< 8) ||| x3.toNat = x0.toNat <<< 24 + x1.toNat <<< 16 + x2.toNat <<< 8 + x3.toNat := by
    have : x0.toNat <<< 24 + x1.toNat <<< 16 + x2.toNat <<< 8 = ((x0.toNat * 256 + x1.toNat) * 256 + x2.toNat) <<< 8 := by simp only [Nat.shiftLeft_eq]; omega
    rw [this, ← Nat.shiftLeft_add_eq_or_of_lt]; omega
  have b0 : x0.toNat <<< 24 < 4294967296 := by rw [Nat.shiftLeft_eq]; omega
  have b1 : x1.toNat <<< 16 < 4294967296 := by rw [Nat.shiftLeft_eq]; omega
  have b2 : x2.toNat <<< 8 < 4294967296 := by rw [Nat.shiftLeft_eq]; omega
  have c1 : x0.toNat <<< 24 + x1.toNat <<< 16 < 4294967296 := by simp only [Nat.shiftLeft_eq]; omega
  have c2 : x0.toNat <<< 24 + x1.toNat <<< 16 + x2.toNat <<< 8 < 4294967296 := by simp only [Nat.shiftLeft_eq]; omega
  rw [e0, e1, e2, u32_or_nat _ _ b0 b1, a1, u32_or_nat _ _ c1 b2, a2, u32_or_nat _ _ c2 (by omega), a3]
  rw [BitVec.toNat_ofNat, Nat.mod_eq_of_lt (by omega)]
  simp only [Nat.shiftLeft_eq]
def NoQ : Exit → Act → World → Prop := fun _ _ _ => False
section
variable {P : Program} {ops : Array Oper} {Q : Exit → Act → World → Prop} {S : World → Prop} {L A : List Nat}
def Qr (P : Program) (o : Oper) (a : Act) (w : World) (v : Value) : Prop := o.quietAt P a (fun w' => w' = w) w v
def Vr (P : Program) (o : Oper) (a : Act) (w : World) (v : Value) : Prop := (execOp a.eval o).run P w = .ok (.value v) w
def tOp (P : Program) (ops : Array Oper) (S : World → Prop) (L A : List Nat) (i : Nat) (K : Act → World → Prop) (a : Act) (w : World) : Prop :=
  match ops[i]? with
  | none => K a w
  | some o => if Region.wanted o (yielded ops a.tmps) then
      (if L.contains i then o.wp P a w (fun a' w' => S w' ∧ K a' w') NoQ
       else ∃ v, Qr P o a w v ∧ (A.contains i = true → ∀ w', S w' → Vr P o a w' v) ∧ K (a.put o.dst v) w)
    else K (a.put o.dst undef) w
def tAny (P : Program) (ops : Array Oper) (Q : Exit → Act → World → Prop) (S : World → Prop) (L A : List Nat) : Nat → Array Bool → Act → World → Prop
  | 0, listed, a, w => Region.ready .any ops listed = [] ∧ Q .normal a w
  | fuel + 1, listed, a, w => (Region.ready .any ops listed = [] → Q .normal a w) ∧
      ∀ i ∈ Region.ready .any ops listed, tOp P ops S L A i (tAny P ops Q S L A fuel (listed.setIfInBounds i true)) a w
def wpT (P : Program) (ops : Array Oper) (Q : Exit → Act → World → Prop) (S : World → Prop) (L A : List Nat) : List Oper → Nat → Act → World → Prop
  | [], _, a, w => Q .normal a w
  | o :: l, k, a, w => if Region.wanted o (yielded ops a.tmps) then
      (if L.contains k then o.wp P a w (fun a' w' => S w' ∧ wpT P ops Q S L A l (k + 1) a' w') NoQ
       else ∃ v, Qr P o a w v ∧ (A.contains k = true → ∀ w', S w' → Vr P o a w' v) ∧ wpT P ops Q S L A l (k + 1) (a.put o.dst v) w)
    else wpT P ops Q S L A l (k + 1) (a.put o.dst undef) w
theorem wp_noQ {o : Oper} {a : Act} {w : World} {K : Act → World → Prop} (h : o.wp P a w K NoQ) : o.wp P a w K Q := by
  unfold Oper.wp at *
  generalize (execOp a.eval o).run P w = r at *
  cases r with
  | ok n w' =>
    cases n <;> simp only [Oper.upon] at h ⊢ <;> try exact h
    case enter f args =>
      refine Calls.mono h fun e w'' he => ?_
      cases e with
      | returned u => exact he
      | panicked c => exact he.elim
      | outgrown => obtain ⟨_, _, hf⟩ := he; exact hf.elim
  | halt x w' =>
    cases x <;> simp only [Oper.upon] at h ⊢
    case panic u => exact h.elim
def Left (a : Act) (dst : Option Tmp) (a' : Act) : Prop := ∃ u, a' = a.put dst u ∨ ∃ d, a' = ({ a with defers := d :: a.defers } : Act).put dst u
theorem wp_left {o : Oper} {a : Act} {w : World} {K : Act → World → Prop} (h : o.wp P a w K NoQ) : o.wp P a w (fun a' w' => Left a o.dst a' ∧ K a' w') NoQ := by
  unfold Oper.wp at *
  generalize (execOp a.eval o).run P w = r at *
  cases r with
  | ok n w' =>
    cases n <;> simp only [Oper.upon] at h ⊢
    case value u => exact ⟨⟨u, .inl rfl⟩, h⟩
    case skip => exact ⟨⟨_, .inl rfl⟩, h⟩
    case defer d => exact ⟨⟨_, .inr ⟨d, rfl⟩⟩, h⟩
    case enter f args =>
      refine Calls.mono h fun e w'' he => ?_
      cases e with
      | returned u => exact ⟨⟨u, .inl rfl⟩, he⟩
      | panicked c => exact he
      | outgrown => exact he
    case row row args => exact Rows.mono h fun u w'' he => ⟨⟨u, .inl rfl⟩, he⟩
  | halt x w' =>
    cases x <;> simp only [Oper.upon] at h ⊢
    case panic u => exact h
theorem wp_some {o : Oper} {a : Act} {w : World} {K : Act → World → Prop} (h : o.wp P a w K NoQ) : ∃ a' w', K a' w' := by
  unfold Oper.wp at h
  generalize (execOp a.eval o).run P w = r at *
  cases r with
  | ok n w' =>
    cases n <;> simp only [Oper.upon] at h
    case value u => exact ⟨_, _, h⟩
    case skip => exact ⟨_, _, h⟩
    case defer d => exact ⟨_, _, h⟩
    case enter f args =>
      obtain ⟨e, w'', fr, he, _⟩ := h []
      cases e with
      | returned u => exact ⟨_, _, he⟩
      | panicked c => exact he.elim
      | outgrown => obtain ⟨_, _, hf⟩ := he; exact hf.elim
    case row row args =>
      obtain ⟨u, w'', he, _⟩ := h default []
      exact ⟨_, _, he⟩
  | halt x w' =>
    cases x <;> simp only [Oper.upon] at h
    case panic u => exact h.elim
theorem wp_frame {oi oj : Oper} {a : Act} {w : World} {v : Value} {K : Act → World → Prop} (hap : oi.apart ops oj = true) (hsj : ∀ cs b, oj.op ≠ .select cs b)
    (h : oj.wp P (a.put oi.dst v) w K NoQ) : oj.wp P a w (fun a' w' => Left a oj.dst a' ∧ K (a'.put oi.dst v) w') NoQ := by
  obtain ⟨h1, h2, h3⟩ := Oper.apart_spec hap
  unfold Oper.wp at *
  rw [execOp_put oj hsj a oi.dst v h1] at h
  generalize (execOp a.eval oj).run P w = r at *
  cases r with
  | ok n w' =>
    cases n <;> simp only [Oper.upon] at h ⊢
    case value u => exact ⟨⟨u, .inl rfl⟩, by rw [← Act.put_comm a v u h2]; exact h⟩
    case skip => exact ⟨⟨_, .inl rfl⟩, by rw [← Act.put_comm a v undef h2]; exact h⟩
    case defer d =>
      refine ⟨⟨_, .inr ⟨d, rfl⟩⟩, ?_⟩
      rw [← Act.put_comm _ v undef h2, ← Act.put_defers]
      exact h
    case enter f args =>
      refine Calls.mono h fun e w'' he => ?_
      cases e with
      | returned u => exact ⟨⟨u, .inl rfl⟩, by rw [← Act.put_comm a v u h2]; exact he⟩
      | panicked c => exact he
      | outgrown => exact he
    case row row args => exact Rows.mono h fun u w'' he => ⟨⟨u, .inl rfl⟩, by rw [← Act.put_comm a v u h2]; exact he⟩
  | halt x w' =>
    cases x <;> simp only [Oper.upon] at h ⊢
    case panic u => exact h
theorem wp_unframe {oi oj : Oper} {a : Act} {w : World} {v : Value} {K : Act → World → Prop} (hap : oi.apart ops oj = true) (hsj : ∀ cs b, oj.op ≠ .select cs b)
    (h : oj.wp P a w (fun a' w' => K (a'.put oi.dst v) w') NoQ) : oj.wp P (a.put oi.dst v) w K NoQ := by
  obtain ⟨h1, h2, h3⟩ := Oper.apart_spec hap
  unfold Oper.wp at *
  rw [execOp_put oj hsj a oi.dst v h1]
  generalize (execOp a.eval oj).run P w = r at *
  cases r with
  | ok n w' =>
    cases n <;> simp only [Oper.upon] at h ⊢
    case value u => rw [Act.put_comm a v u h2]; exact h
    case skip => rw [Act.put_comm a v undef h2]; exact h
    case defer d =>
      rw [Act.put_defers, Act.put_comm _ v undef h2]
      exact h
    case enter f args =>
      refine Calls.mono h fun e w'' he => ?_
      cases e with
      | returned u => show K _ _; rw [Act.put_comm a v u h2]; exact he
      | panicked c => exact he
      | outgrown => exact he
    case row row args => exact Rows.mono h fun u w'' he => by rw [Act.put_comm a v u h2]; exact he
  | halt x w' =>
    cases x <;> simp only [Oper.upon] at h ⊢
    case panic u => exact h
theorem tOp_mono {i : Nat} {K K' : Act → World → Prop} {a : Act} {w : World} (hS : S w) (h : ∀ a w, S w → K a w → K' a w) (hh : tOp P ops S L A i K a w) : tOp P ops S L A i K' a w := by
  unfold tOp at *
  split
  · rename_i ho; rw [ho] at hh; exact h _ _ hS hh
  rename_i o ho
  rw [ho] at hh
  dsimp only at hh
  split
  · rename_i hw
    rw [if_pos hw] at hh
    split
    · rename_i hl; rw [if_pos hl] at hh; exact Go.Oper.wp_mono (fun a w h1 => ⟨h1.1, h _ _ h1.1 h1.2⟩) hh
    rename_i hl; rw [if_neg hl] at hh
    obtain ⟨v, h1, h2, h3⟩ := hh
    exact ⟨v, h1, h2, h _ _ hS h3⟩
  rename_i hw; rw [if_neg hw] at hh; exact h _ _ hS hh
theorem tOp_some {i : Nat} {K : Act → World → Prop} {a : Act} {w : World} (hh : tOp P ops S L A i K a w) : ∃ a' w', K a' w' := by
  unfold tOp at hh
  split at hh
  · exact ⟨_, _, hh⟩
  split at hh
  · split at hh
    · obtain ⟨a', w', h⟩ := wp_some hh; exact ⟨a', w', h.2⟩
    obtain ⟨v, _, _, h⟩ := hh; exact ⟨_, _, h⟩
  exact ⟨_, _, hh⟩
theorem wpOp_of_tOp {i : Nat} {K : Act → World → Prop} {a : Act} {w : World} (hh : tOp P ops S L A i K a w) : wpOp P ops Q i K a w := by
  unfold tOp at hh
  unfold wpOp
  split
  · rename_i ho; rw [ho] at hh; exact hh
  rename_i o ho
  rw [ho] at hh
  dsimp only at hh
  split
  · rename_i hw
    rw [if_pos hw] at hh
    refine .inl ?_
    split at hh
    · exact wp_noQ (Go.Oper.wp_mono (fun a w h1 => h1.2) hh)
    obtain ⟨v, h1, _, h3⟩ := hh
    unfold Qr Oper.quietAt at h1
    unfold Oper.wp
    generalize (execOp a.eval o).run P w = r at *
    cases r with
    | ok n w' =>
      cases n <;> simp only [Oper.quietUpon] at h1 <;> simp only [Oper.upon]
      case value u => obtain ⟨rfl, rfl⟩ := h1; exact h3
      case skip => obtain ⟨rfl, rfl⟩ := h1; exact h3
      case enter f args =>
        obtain ⟨rfl, hc⟩ := h1
        exact hc.mono fun e w'' ⟨he, hw''⟩ => by subst he; subst hw''; exact h3
    | halt x w' => simp only [Oper.quietUpon] at h1
  rename_i hw; rw [if_neg hw] at hh; exact hh
theorem wpAny_of_tAny : ∀ (fuel : Nat) (listed : Array Bool) (a : Act) (w : World), tAny P ops Q S L A fuel listed a w → wpAny P .any ops Q fuel listed a w
  | 0, _, _, _, h => h
  | fuel + 1, _, _, _, h => ⟨h.1, fun i hi => wpOp_mono (fun a w h => wpAny_of_tAny fuel _ a w h) (wpOp_of_tOp (h.2 i hi))⟩
theorem Left.exec {a a' : Act} {oi oj : Oper} (hl : Left a oi.dst a') (h1 : ∀ d, oi.dst = some d → d ∉ oj.looksAt ops) (hsj : ∀ cs b, oj.op ≠ .select cs b) :
    execOp a'.eval oj = execOp a.eval oj ∧ Region.wanted oj (yielded ops a'.tmps) = Region.wanted oj (yielded ops a.tmps) := by
  obtain ⟨u, rfl | ⟨d, rfl⟩⟩ := hl
  · exact ⟨execOp_put oj hsj a oi.dst u h1, wanted_put oj a oi.dst u h1⟩
  exact ⟨(execOp_put oj hsj _ oi.dst u h1).trans rfl, (wanted_put oj _ oi.dst u h1).trans rfl⟩
theorem Qr.same {o : Oper} {a a' : Act} {w : World} {v : Value} (h : Qr P o a w v) (he : execOp a'.eval o = execOp a.eval o) : Qr P o a' w v := by
  unfold Qr Oper.quietAt at *; rw [he]; exact h
theorem Vr.same {o : Oper} {a a' : Act} {w : World} {v : Value} (h : Vr P o a w v) (he : execOp a'.eval o = execOp a.eval o) : Vr P o a' w v := by
  unfold Vr at *; rw [he]; exact h
theorem Vr.qr {o : Oper} {a : Act} {w : World} {v : Value} (h : Vr P o a w v) : Qr P o a w v := by
  unfold Vr at h; unfold Qr Oper.quietAt; rw [h]; exact ⟨rfl, rfl⟩
theorem Vr.uniq {o : Oper} {a : Act} {w : World} {v v' : Value} (h : Vr P o a w v) (h' : Vr P o a w v') : v = v' := by
  unfold Vr at h h'; rw [h] at h'; injection h' with h'; injection h'
theorem tOp_swap {i j : Nat} {oi oj : Oper} (hi : ops[i]? = some oi) (hj : ops[j]? = some oj) (hap : oi.apart ops oj = true) (hap' : oj.apart ops oi = true)
    (hsi : ∀ cs b, oi.op ≠ .select cs b) (hsj : ∀ cs b, oj.op ≠ .select cs b)
    (hLL : ¬ (L.contains i = true ∧ L.contains j = true)) (hA1 : L.contains j = true → A.contains i = true) (hA2 : L.contains i = true → A.contains j = true)
    {K : Act → World → Prop} {a : Act} {w : World} (hS : S w) (h : tOp P ops S L A i (tOp P ops S L A j K) a w) : tOp P ops S L A j (fun a' w' => S w' ∧ tOp P ops S L A i K a' w') a w := by
  obtain ⟨h1, h2, h3⟩ := Oper.apart_spec hap
  unfold tOp at h ⊢
  simp only [hi, hj] at h ⊢
  by_cases hli : Region.wanted oi (yielded ops a.tmps) = true ∧ L.contains i = true
  · -- i is loud
    obtain ⟨hwi, hl⟩ := hli
    rw [if_pos hwi, if_pos hl] at h
    have hlj : ¬ L.contains j = true := fun hh => hLL ⟨hl, hh⟩
    have hAj := hA2 hl
    have hleft := wp_left h
    by_cases hwj : Region.wanted oj (yielded ops a.tmps) = true
    · rw [if_pos hwj, if_neg hlj]
      obtain ⟨a1, w1, hl1, hS1, ht1⟩ := wp_some hleft
      obtain ⟨e1, e2⟩ := hl1.exec h1 hsj
      rw [e2, if_pos hwj, if_neg hlj] at ht1
      obtain ⟨u, _, hu2, _⟩ := ht1
      have hV : ∀ w', S w' → Vr P oj a w' u := fun w' hw' => (hu2 hAj w' hw').same e1.symm
      refine ⟨u, (hV w hS).qr, fun _ => hV, hS, ?_⟩
      rw [wanted_put oi a oj.dst u h3, if_pos hwi, if_pos hl]
      refine wp_unframe hap' hsi (Go.Oper.wp_mono ?_ hleft)
      rintro a2 w2 ⟨hl2, hS2, ht2⟩
      obtain ⟨e3, e4⟩ := hl2.exec h1 hsj
      rw [e4, if_pos hwj, if_neg hlj] at ht2
      obtain ⟨u', _, hu2', hK⟩ := ht2
      have : u' = u := (hu2' hAj w2 hS2).uniq ((hV w2 hS2).same e3)
      subst this
      exact ⟨hS2, hK⟩
    rw [if_neg hwj]
    refine ⟨hS, ?_⟩
    rw [wanted_put oi a oj.dst undef h3, if_pos hwi, if_pos hl]
    refine wp_unframe hap' hsi (Go.Oper.wp_mono ?_ hleft)
    rintro a2 w2 ⟨hl2, hS2, ht2⟩
    obtain ⟨e3, e4⟩ := hl2.exec h1 hsj
    rw [e4, if_neg hwj] at ht2
    exact ⟨hS2, ht2⟩
  -- i is quiet, or passed over: it leaves some v
  obtain ⟨v, hv, hr⟩ : ∃ v, ((Region.wanted oi (yielded ops a.tmps) = true ∧ ¬ L.contains i = true ∧ Qr P oi a w v ∧ (A.contains i = true → ∀ w', S w' → Vr P oi a w' v)) ∨
      (¬ Region.wanted oi (yielded ops a.tmps) = true ∧ v = undef)) ∧
      (if Region.wanted oj (yielded ops (a.put oi.dst v).tmps) = true then
        (if L.contains j = true then oj.wp P (a.put oi.dst v) w (fun a' w' => S w' ∧ K a' w') NoQ
         else ∃ u, Qr P oj (a.put oi.dst v) w u ∧ (A.contains j = true → ∀ w', S w' → Vr P oj (a.put oi.dst v) w' u) ∧ K ((a.put oi.dst v).put oj.dst u) w)
       else K ((a.put oi.dst v).put oj.dst undef) w) := by
    by_cases hwi : Region.wanted oi (yielded ops a.tmps) = true
    · have hl : ¬ L.contains i = true := fun hh => hli ⟨hwi, hh⟩
      rw [if_pos hwi, if_neg hl] at h
      obtain ⟨v, g1, g2, g3⟩ := h
      exact ⟨v, .inl ⟨hwi, hl, g1, g2⟩, g3⟩
    rw [if_neg hwi] at h
    exact ⟨undef, .inr ⟨hwi, rfl⟩, h⟩
  have fin : ∀ (a' : Act) (w' : World), Left a oj.dst a' → (w' = w ∨ (S w' ∧ A.contains i = true)) → K (a'.put oi.dst v) w' →
      (if Region.wanted oi (yielded ops a'.tmps) = true then
        (if L.contains i = true then oi.wp P a' w' (fun a' w' => S w' ∧ K a' w') NoQ
         else ∃ v, Qr P oi a' w' v ∧ (A.contains i = true → ∀ w', S w' → Vr P oi a' w' v) ∧ K (a'.put oi.dst v) w')
       else K (a'.put oi.dst undef) w') := by
    intro a' w' hl' hw' hK
    obtain ⟨e1, e2⟩ := hl'.exec h3 hsi
    rw [e2]
    rcases hv with ⟨hwi, hl, g1, g2⟩ | ⟨hwi, rfl⟩
    · rw [if_pos hwi, if_neg hl]
      refine ⟨v, ?_, fun hh w2 hw2 => (g2 hh w2 hw2).same e1, hK⟩
      rcases hw' with rfl | ⟨hS', hA'⟩
      · exact g1.same e1
      exact ((g2 hA' w' hS').same e1).qr
    rw [if_neg hwi]; exact hK
  rw [wanted_put oj a oi.dst v h1] at hr
  by_cases hwj : Region.wanted oj (yielded ops a.tmps) = true
  · rw [if_pos hwj] at hr ⊢
    by_cases hlj : L.contains j = true
    · rw [if_pos hlj] at hr ⊢
      refine Go.Oper.wp_mono ?_ (wp_frame hap hsj hr)
      rintro a' w' ⟨hl', hS', hK⟩
      exact ⟨hS', hS', fin a' w' hl' (.inr ⟨hS', hA1 hlj⟩) hK⟩
    rw [if_neg hlj] at hr ⊢
    obtain ⟨u, g1, g2, g3⟩ := hr
    have e := execOp_put oj hsj a oi.dst v h1
    refine ⟨u, g1.same e.symm, fun hh w2 hw2 => (g2 hh w2 hw2).same e.symm, hS, fin _ w ⟨u, .inl rfl⟩ (.inl rfl) ?_⟩
    rw [← Act.put_comm a v u h2]; exact g3
  rw [if_neg hwj] at hr ⊢
  refine ⟨hS, fin _ w ⟨undef, .inl rfl⟩ (.inl rfl) ?_⟩
  rw [← Act.put_comm a v undef h2]; exact hr
def edgeMask (pre : Array Nat) (o : Oper) : Nat := o.after.foldl (fun s e => if Region.binds .any e then s ||| 2 ^ e.on ||| pre.getD e.on 0 else s) 0
def chk (ops : Array Oper) (pre : Array Nat) (L A : List Nat) : Bool :=
  Region.noSelect ops && (List.range ops.size).all fun j => match ops[j]? with
    | none => false
    | some oj => (oj.after.all fun e => !Region.binds .any e || decide (e.on < j)) && pre.getD j 0 == edgeMask pre oj &&
      (List.range j).all fun i => (pre.getD j 0).testBit i || match ops[i]? with
        | none => false
        | some oi => oi.apart ops oj && oj.apart ops oi && !(L.contains i && L.contains j) && (!L.contains j || A.contains i) && (!L.contains i || A.contains j)
structure Fine (ops : Array Oper) (pre : Array Nat) (L A : List Nat) : Prop where
  sel : ∀ (j : Nat) (o : Oper) cs b, ops[j]? = some o → o.op ≠ .select cs b
  edge : ∀ (j : Nat) (o : Oper), ops[j]? = some o → ∀ e ∈ o.after, Region.binds .any e = true → e.on < j
  mask : ∀ (j : Nat) (o : Oper), ops[j]? = some o → pre.getD j 0 = edgeMask pre o
  pair : ∀ (i j : Nat) (oi oj : Oper), ops[i]? = some oi → ops[j]? = some oj → i < j → (pre.getD j 0).testBit i = false →
    oi.apart ops oj = true ∧ oj.apart ops oi = true ∧ ¬ (L.contains i = true ∧ L.contains j = true) ∧ (L.contains j = true → A.contains i = true) ∧ (L.contains i = true → A.contains j = true)
theorem fine_of_chk {pre : Array Nat} (h : chk ops pre L A = true) : Fine ops pre L A := by
  simp only [chk, Bool.and_eq_true, List.all_eq_true, List.mem_range] at h
  obtain ⟨hs, h⟩ := h
  have at_ : ∀ (j : Nat) (o : Oper), ops[j]? = some o → _ := fun j o hj => (by
    have := h j (Array.getElem?_eq_some_iff.1 hj).1
    rw [hj] at this
    simpa only [Bool.and_eq_true, beq_iff_eq, List.all_eq_true, List.mem_range, Array.all_eq_true_iff_forall_mem] using this :
      ((∀ e ∈ o.after, (!Region.binds .any e || decide (e.on < j)) = true) ∧ pre.getD j 0 = edgeMask pre o) ∧ ∀ i < j, ((pre.getD j 0).testBit i || match ops[i]? with
        | none => false
        | some oi => oi.apart ops o && o.apart ops oi && !(L.contains i && L.contains j) && (!L.contains j || A.contains i) && (!L.contains i || A.contains j)) = true)
  refine ⟨fun j o cs b hj => Region.noSelect_spec hs j o cs b hj, fun j o hj e he hb => ?_, fun j o hj => (at_ j o hj).1.2, fun i j oi oj hi hj hij ht => ?_⟩
  · have := (at_ j o hj).1.1 e he
    simpa [hb] using this
  have := (at_ j oj hj).2 i hij
  rw [ht, hi] at this
  simp only [Bool.false_or, Bool.and_eq_true, Bool.not_eq_true', Bool.and_eq_false_iff, Bool.or_eq_true] at this
  obtain ⟨⟨⟨⟨g1, g2⟩, g3⟩, g4⟩, g5⟩ := this
  refine ⟨g1, g2, ?_, ?_, ?_⟩
  · rintro ⟨x, y⟩; rcases g3 with g | g
    · rw [x] at g; cases g
    rw [y] at g; cases g
  · intro x; rcases g4 with g | g
    · rw [x] at g; cases g
    exact g
  intro x; rcases g5 with g | g
  · rw [x] at g; cases g
  exact g
def Down (ops : Array Oper) (listed : Array Bool) : Prop := ∀ (j : Nat) (o : Oper), ops[j]? = some o → listed.getD j false = true → ∀ e ∈ o.after, Region.binds .any e = true → listed.getD e.on false = true
theorem foldl_mask (pre : Array Nat) (b : Nat) : ∀ (l : List Edge) (s : Nat), (l.foldl (fun s e => if Region.binds .any e then s ||| 2 ^ e.on ||| pre.getD e.on 0 else s) s).testBit b = true →
    s.testBit b = true ∨ ∃ e ∈ l, Region.binds .any e = true ∧ (e.on = b ∨ (pre.getD e.on 0).testBit b = true)
  | [], s, h => .inl h
  | e :: l, s, h => by
    rw [List.foldl_cons] at h
    rcases foldl_mask pre b l _ h with h | ⟨e', he', hb', h⟩
    · split at h
      · rename_i hb
        rw [Nat.testBit_or, Nat.testBit_or, Nat.testBit_two_pow] at h
        simp only [Bool.or_eq_true, decide_eq_true_eq] at h
        rcases h with (h | h) | h
        · exact .inl h
        · exact .inr ⟨e, by simp, hb, .inl h⟩
        exact .inr ⟨e, by simp, hb, .inr h⟩
      exact .inl h
    exact .inr ⟨e', by simp [he'], hb', h⟩
theorem pre_listed {pre : Array Nat} (hf : Fine ops pre L A) {listed : Array Bool} (hd : Down ops listed) : ∀ (j : Nat) (o : Oper), ops[j]? = some o →
    (∀ e ∈ o.after, Region.binds .any e = true → listed.getD e.on false = true) → ∀ b, (pre.getD j 0).testBit b = true → listed.getD b false = true := by
  intro j
  induction j using Nat.strongRecOn with
  | _ j ih =>
    intro o hj hall b hb
    rw [hf.mask j o hj] at hb
    unfold edgeMask at hb
    rw [← Array.foldl_toList] at hb
    rcases foldl_mask pre b o.after.toList 0 hb with h | ⟨e, he, hbe, h⟩
    · simp at h
    have he' : e ∈ o.after := by simpa using he
    have hon := hall e he' hbe
    rcases h with rfl | h
    · exact hon
    have hlt := hf.edge j o hj e he' hbe
    cases ho : ops[e.on]? with
    | none =>
      have := (Array.getElem?_eq_some_iff.1 hj).1
      rw [Array.getElem?_eq_none_iff] at ho
      omega
    | some o2 => exact ih e.on hlt o2 ho (hd e.on o2 ho hon) b h
theorem down_set {listed : Array Bool} (hd : Down ops listed) {i : Nat} (hi : i ∈ Region.ready .any ops listed) : Down ops (listed.setIfInBounds i true) := by
  intro j o hj hl e he hb
  by_cases hji : j = i
  · subst hji
    obtain ⟨_, o', ho', hall⟩ := mem_ready.1 hi
    rw [hj] at ho'; injection ho' with ho'; subst ho'
    exact getD_set_true (hall e he hb)
  rw [getD_set_ne false (Ne.symm hji)] at hl
  exact getD_set_true (hd j o hj hl e he hb)
theorem pair_of_ready {pre : Array Nat} (hf : Fine ops pre L A) {listed : Array Bool} (hd : Down ops listed) {i j : Nat} (hi : i ∈ Region.ready .any ops listed) (hj : j ∈ Region.ready .any ops listed) (hne : j ≠ i) :
    ∃ oi oj, ops[i]? = some oi ∧ ops[j]? = some oj ∧ oi.apart ops oj = true ∧ oj.apart ops oi = true ∧ ¬ (L.contains i = true ∧ L.contains j = true) ∧ (L.contains j = true → A.contains i = true) ∧ (L.contains i = true → A.contains j = true) := by
  obtain ⟨hiu, oi, hoi, halli⟩ := mem_ready.1 hi
  obtain ⟨hju, oj, hoj, hallj⟩ := mem_ready.1 hj
  have unl : ∀ k, listed.getD k true = false → listed.getD k false = true → False := by
    intro k h1 h2
    rcases Nat.lt_or_ge k listed.size with h' | h'
    · simp [h'] at h1 h2; rw [h1] at h2; cases h2
    simp [Array.getElem?_eq_none h'] at h1
  have nij : (pre.getD j 0).testBit i = false := by
    cases ht : (pre.getD j 0).testBit i
    · rfl
    exact (unl i hiu (pre_listed hf hd j oj hoj hallj i ht)).elim
  have nji : (pre.getD i 0).testBit j = false := by
    cases ht : (pre.getD i 0).testBit j
    · rfl
    exact (unl j hju (pre_listed hf hd i oi hoi halli j ht)).elim
  refine ⟨oi, oj, hoi, hoj, ?_⟩
  rcases Nat.lt_or_gt_of_ne hne with h | h
  · obtain ⟨g1, g2, g3, g4, g5⟩ := hf.pair j i oj oi hoj hoi h nji
    exact ⟨g2, g1, fun ⟨x, y⟩ => g3 ⟨y, x⟩, g5, g4⟩
  exact hf.pair i j oi oj hoi hoj h nij
theorem tAny_first {pre : Array Nat} (hf : Fine ops pre L A) {i : Nat} : ∀ (fuel : Nat) (listed : Array Bool) (a : Act) (w : World), Down ops listed → i ∈ Region.ready .any ops listed → S w →
    tOp P ops S L A i (tAny P ops Q S L A fuel (listed.setIfInBounds i true)) a w → tAny P ops Q S L A (fuel + 1) listed a w := by
  intro fuel
  induction fuel with
  | zero =>
    intro listed a w hd hr hS H
    refine ⟨fun h => (by rw [h] at hr; cases hr), fun j hj => ?_⟩
    by_cases hji : j = i
    · subst hji; exact H
    have := ready_mono hj hji
    obtain ⟨a', w', h⟩ := tOp_some H
    rw [h.1] at this
    cases this
  | succ fuel ih =>
    intro listed a w hd hr hS H
    refine ⟨fun h => (by rw [h] at hr; cases hr), fun j hj => ?_⟩
    by_cases hji : j = i
    · subst hji; exact H
    obtain ⟨oi, oj, hoi, hoj, g1, g2, g3, g4, g5⟩ := pair_of_ready hf hd hr hj hji
    have H2 : tOp P ops S L A i (tOp P ops S L A j (tAny P ops Q S L A fuel ((listed.setIfInBounds i true).setIfInBounds j true))) a w :=
      tOp_mono hS (fun a w _ h => h.2 j (ready_mono hj hji)) H
    have H3 := tOp_swap hoi hoj g1 g2 (fun cs b => hf.sel i oi cs b hoi) (fun cs b => hf.sel j oj cs b hoj) g3 g4 g5 hS H2
    refine tOp_mono hS (fun a' w' _ h => ?_) H3
    refine ih (listed.setIfInBounds j true) a' w' (down_set hd hj) (ready_mono hr (Ne.symm hji)) h.1 ?_
    rw [Array.setIfInBounds_comm _ _ hji]
    exact h.2
theorem tAny_lex {pre : Array Nat} (hf : Fine ops pre L A) : ∀ (l : List Oper) (k : Nat) (listed : Array Bool) (a : Act) (w : World), (∀ j, l[j]? = ops[k + j]?) → k + l.length = ops.size →
    listed.size = ops.size → (∀ i, i < ops.size → ∀ d, listed.getD i d = decide (i < k)) → S w → wpT P ops Q S L A l k a w → tAny P ops Q S L A l.length listed a w
  | [], k, listed, a, w, hl, hk, hsz, hlist, hS, h => by
    refine ⟨?_, h⟩
    rw [List.eq_nil_iff_forall_not_mem]
    intro j hj
    obtain ⟨hju, o, ho, _⟩ := mem_ready.1 hj
    have hlt := (Array.getElem?_eq_some_iff.1 ho).1
    rw [hlist j hlt true] at hju
    simp at hk hju
    omega
  | o :: l, k, listed, a, w, hl, hk, hsz, hlist, hS, h => by
    have h0 : ops[k]? = some o := by simpa using (hl 0).symm
    have hklt : k < ops.size := (Array.getElem?_eq_some_iff.1 h0).1
    have hd : Down ops listed := by
      intro j o' hj hlj e he hb
      have hjlt := (Array.getElem?_eq_some_iff.1 hj).1
      rw [hlist j hjlt false] at hlj
      have := hf.edge j o' hj e he hb
      rw [hlist e.on (by omega) false]
      simp at hlj ⊢
      omega
    have hr : k ∈ Region.ready .any ops listed := by
      refine mem_ready.2 ⟨by rw [hlist k hklt true]; simp, o, h0, fun e he hb => ?_⟩
      have := hf.edge k o h0 e he hb
      rw [hlist e.on (by omega) false]
      simpa using this
    refine tAny_first hf l.length listed a w hd hr hS ?_
    have hop : tOp P ops S L A k (wpT P ops Q S L A l (k + 1)) a w := by unfold tOp; simp only [h0]; exact h
    refine tOp_mono hS (fun a' w' hS' hh => ?_) hop
    refine tAny_lex hf l (k + 1) _ a' w' (fun j => by have := hl (j + 1); simpa [Nat.add_assoc, Nat.add_comm 1 j] using this) (by simp at hk; omega) (by simpa using hsz) ?_ hS' hh
    intro i hi d
    by_cases hik : k = i
    · subst hik; simp [hsz, hklt]
    rw [getD_set_ne d hik, hlist i hi d]
    simp; omega
theorem wp_region_T {id : Nat} {a : Act} {w : World} {l : List Oper} (L A : List Nat) (S : World → Prop) (hm : P.follows .mixedOrders = true) (hc : chk l.toArray (Region.before l.toArray) L A = true)
    (hS : S w.drew) (h : wpT P l.toArray Q S L A l 0 a w.drew) : (Code.region id l.toArray true).wp P Q a w := by
  refine wp_region_any hm (wpAny_of_tAny (L := L) (A := A) (S := S) _ _ _ _ ?_)
  have := tAny_lex (P := P) (Q := Q) (S := S) (fine_of_chk hc) l 0 (Array.replicate l.toArray.size false) a w.drew (by simp) (by simp) (by simp)
    (fun i hi d => by simp only [Array.getD_eq_getD_getElem?, Array.getElem?_replicate, if_pos hi]; simp) hS h
  simpa using this
theorem wpT_nil {k : Nat} {a : Act} {w : World} (h : Q .normal a w) : wpT P ops Q S L A [] k a w := h
theorem wpT_skip {o : Oper} {l : List Oper} {k : Nat} {a : Act} {w : World} (hw : Region.wanted o (yielded ops a.tmps) = false) (h : wpT P ops Q S L A l (k + 1) (a.put o.dst undef) w) : wpT P ops Q S L A (o :: l) k a w := by
  unfold wpT; rw [if_neg (by rw [hw]; exact Bool.false_ne_true)]; exact h
theorem wpT_here {o : Oper} {l : List Oper} {k : Nat} {a : Act} {w : World} (hw : Region.wanted o (yielded ops a.tmps) = true) (hl : L.contains k = false) (ha : A.contains k = false)
    (h : ∀ K : Act → Prop, (∀ a, wpT P ops Q S L A l (k + 1) a w → K a) → o.quiet P a (fun w' => w' = w) K) : wpT P ops Q S L A (o :: l) k a w := by
  unfold wpT
  rw [if_pos hw, if_neg (by rw [hl]; exact Bool.false_ne_true)]
  obtain ⟨v, h1, h2⟩ := h _ fun _ hh => hh
  exact ⟨v, h1 w rfl, fun hh => (by rw [ha] at hh; cases hh), h2⟩
theorem wpT_beside {o : Oper} {l : List Oper} {k : Nat} {a : Act} {w : World} (hw : Region.wanted o (yielded ops a.tmps) = true) (hl : L.contains k = false) (hS : S w)
    (h : ∀ K : Act → Prop, (∀ a, wpT P ops Q S L A l (k + 1) a w → K a) → ∃ v, (∀ w', S w' → Vr P o a w' v) ∧ K (a.put o.dst v)) : wpT P ops Q S L A (o :: l) k a w := by
  unfold wpT
  rw [if_pos hw, if_neg (by rw [hl]; exact Bool.false_ne_true)]
  obtain ⟨v, h1, h2⟩ := h _ fun _ hh => hh
  exact ⟨v, (h1 w hS).qr, fun _ => h1, h2⟩
def valueKind : Op → Bool
  | .move _ | .assign _ | .pick .. | .build .. | .load .. | .nilCheck _ | .binOp .. | .unOp .. | .convert .. | .slice .. | .fieldAddr .. | .field .. | .indexAddr .. | .index .. | .extract .. | .sliceToArrayPointer .. => true
  | .call { callee := .builtin b, .. } => match b with | .len | .cap | .min | .max => true | _ => false
  | _ => false
theorem run_value {P : Program} (s : Sem Value) {w w' : World} {n : Next} (h : (do pure (Next.value (← s)) : Sem Next).run P w = .ok n w') : ∃ v, n = .value v := by
  rw [Sem.run_bind] at h
  cases hs : s.run P w with
  | ok v w1 => rw [hs] at h; simp at h; exact ⟨v, h.1.symm⟩
  | halt x w1 => rw [hs] at h; simp [Result.andThen] at h
theorem run_nilDeref {P : Program} {α : Type} {w w' : World} {n : α} (h : (runtimePanic .nilDeref : Sem α).run P w = .ok n w') : False := by
  simp [runtimePanic, program, goPanic, Sem.run_bind, Sem.run] at h
theorem value_of_kind {o : Oper} {a : Act} {w w' : World} {n : Next} (hk : valueKind o.op = true) (h : (execOp a.eval o).run P w = .ok n w') : ∃ v, n = .value v := by
  obtain ⟨dst, op, type, pos, after, guard⟩ := o
  unfold execOp at h
  cases op <;> simp only [valueKind] at hk <;> try (cases hk; done)
  case move x => simp at h; exact ⟨_, h.1.symm⟩
  case assign x => simp at h; exact ⟨_, h.1.symm⟩
  case pick c x y =>
    simp only [Sem.run_bind] at h
    cases hs : (asBool (a.eval c)).run P w with
    | ok v w1 => rw [hs] at h; simp at h; exact ⟨_, h.1.symm⟩
    | halt x w1 => rw [hs] at h; simp [Result.andThen] at h
  case nilCheck x =>
    dsimp only at h
    split at h
    · exact (run_nilDeref h).elim
    · exact (run_nilDeref h).elim
    · exact (run_nilDeref h).elim
    · split at h
      · exact (run_nilDeref h).elim
      · simp only [Sem.run_bind] at h
        cases hp : (program : Sem Program).run P w with
        | halt x w1 => rw [hp] at h; simp [Result.andThen] at h
        | ok p w1 =>
          rw [hp] at h
          simp only [Result.andThen] at h
          generalize hq : Sem.run P _ w1 = q at h
          cases q with
          | halt x w2 => simp at h
          | ok b w2 =>
            simp only at h
            split at h
            · simp [unsupported, Sem.run, Result.andThen] at h
            simp at h; exact ⟨_, h.1.symm⟩
      simp at h; exact ⟨_, h.1.symm⟩
    simp at h; exact ⟨_, h.1.symm⟩
  case call c =>
    obtain ⟨callee, args, argTypes⟩ := c
    cases callee <;> simp only at hk <;> try (cases hk; done)
    case builtin b =>
      simp only [resolve, Sem.run_bind, Sem.run_pure, Result.andThen_ok, invoke] at h
      cases b <;> simp only [] at hk <;> try (cases hk; done)
      all_goals (simp only [builtin] at h; exact run_value _ h)
  all_goals exact run_value _ h
theorem wpT_amb {o : Oper} {l : List Oper} {k : Nat} {a : Act} {w : World} (hw : Region.wanted o (yielded ops a.tmps) = true) (hl : L.contains k = false) (hk : valueKind o.op = true) (hS : S w)
    (h : ∀ K : Act → Prop, (∀ a, wpT P ops Q S L A l (k + 1) a w → K a) → o.quiet P a S K) : wpT P ops Q S L A (o :: l) k a w :=
  wpT_beside hw hl hS fun K hK => by
    obtain ⟨v, h1, h2⟩ := h K hK
    refine ⟨v, fun w' hw' => ?_, h2⟩
    have h3 := h1 w' hw'
    unfold Oper.quietAt at h3
    unfold Vr
    generalize hr : (execOp a.eval o).run P w' = r at *
    cases r with
    | ok n w2 =>
      obtain ⟨u, rfl⟩ := value_of_kind hk hr
      obtain ⟨rfl, rfl⟩ := h3
      rfl
    | halt x w2 => simp only [Oper.quietUpon] at h3
theorem wpT_loud {o : Oper} {l : List Oper} {k : Nat} {a : Act} {w : World} (hw : Region.wanted o (yielded ops a.tmps) = true) (hl : L.contains k = true)
    (h : ∀ K : Act → World → Prop, (∀ a w', S w' → wpT P ops Q S L A l (k + 1) a w' → K a w') → o.wp P a w K NoQ) : wpT P ops Q S L A (o :: l) k a w := by
  unfold wpT
  rw [if_pos hw, if_pos hl]
  exact h _ fun _ _ h1 h2 => ⟨h1, h2⟩
end
open Go Go.RowKit
def Blk (w : World) (g : Nat) (t : TypeId) (cs : Array Value) : Prop := w.heap[g]? = some (.cells cs t (0, 0))
section blk
variable {w w' : World} {g : Nat} {t : TypeId} {cs : Array Value}
theorem Blk.lt (h : Blk w g t cs) : g < w.heap.size := (Array.getElem?_eq_some_iff.1 h).1
theorem Blk.cell (h : Blk w g t cs) (i : Nat) : w.cell? ⟨g, i, none⟩ = cs[i]? := cell_of_row w g i cs t (0, 0) h
theorem Blk.free (h : Blk w g t cs) (i : Nat) : w.frozen? ⟨g, i, none⟩ = false := frozen_of_row w g i cs t h
theorem Blk.new (w : World) (t : TypeId) (cs : Array Value) : Blk (w.alloc (.cells cs t)) w.heap.size t cs := heap_alloc_new w _
theorem Blk.newAt (w : World) (t : TypeId) (cs : Array Value) {g : Nat} (hg : g = w.heap.size) : Blk (w.alloc (.cells cs t)) g t cs := by subst hg; exact Blk.new w t cs
theorem Blk.drew (h : Blk w g t cs) : Blk w.drew g t cs := h
theorem Blk.drewN (h : Blk w g t cs) (n : Nat) : Blk (w.drewN n) g t cs := h
theorem Blk.alloc (h : Blk w g t cs) (o : Obj) : Blk (w.alloc o) g t cs := (Below.heap_alloc w o g h.lt).trans h
theorem Blk.put (h : Blk w g t cs) (i : Nat) (u : Value) : Blk (w.setCell ⟨g, i, none⟩ u) g t (cs.setIfInBounds i u) := heap_setCell_same w g i cs t u h
theorem Blk.far (h : Blk w g t cs) {p : Addr} (hp : g ≠ p.block) (u : Value) : Blk (w.setCell p u) g t cs := (heap_setCell_other w p g u hp).trans h
theorem Blk.farAt (h : Blk w g t cs) {b i : Nat} (hp : g ≠ b) (u : Value) : Blk (w.setCell ⟨b, i, none⟩ u) g t cs := h.far (p := ⟨b, i, none⟩) hp u
theorem Blk.below {B : Nat} (h : Blk w g t cs) (hb : Below B w w') (hg : g < B) : Blk w' g t cs := (hb.block g hg).trans h
theorem Blk.grown {row : Option Nat} (h : Blk w g t cs) (hb : w.grownBy w' row) (hg : some g ≠ row) : Blk w' g t cs := (hb.block g h.lt hg).trans h
theorem Blk.row (h : Blk w g t cs) (cs' : Array Value) : Blk (w.setRow g cs') g t cs' := setRow_heap w g cs cs' t (0, 0) h
theorem Blk.rowFar (h : Blk w g t cs) {k : Nat} (hk : g ≠ k) (cs' : Array Value) : Blk (w.setRow k cs') g t cs := (setRow_other w k g cs' hk).trans h
end blk
structure El (α : Type) where
  ty : TypeId
  size : Nat
  bytes : Nat
  enc : α → List Value
  zero : α
  pos : 0 < size
  len : ∀ x, (enc x).length = size
  one : ∀ x, ∀ u ∈ enc x, u.oneCell' = true
def El.fits {α : Type} (E : El α) (P : Program) : Prop :=
  (P.info? E.ty).map (fun i => (i.zero.map fun z => z.cells.toList, i.size, i.bytes)) = some (some (E.enc E.zero), E.size, E.bytes)
section el
variable {α : Type} (E : El α)
def El.all (xs : List α) : List Value := xs.flatMap E.enc
theorem El.all_nil : E.all [] = [] := rfl
theorem El.all_cons (x : α) (xs : List α) : E.all (x :: xs) = E.enc x ++ E.all xs := by simp [El.all]
theorem El.all_append (xs ys : List α) : E.all (xs ++ ys) = E.all xs ++ E.all ys := by simp [El.all]
theorem El.all_length (xs : List α) : (E.all xs).length = xs.length * E.size := by
  induction xs with
  | nil => simp [El.all]
  | cons x xs ih => rw [El.all_cons, List.length_append, ih, E.len, List.length_cons, Nat.add_mul]; omega
theorem El.all_one (xs : List α) : ∀ u ∈ E.all xs, u.oneCell' = true := by
  intro u hu; simp only [El.all, List.mem_flatMap] at hu; obtain ⟨x, _, hx⟩ := hu; exact E.one x u hx
theorem El.all_take (xs : List α) (k : Nat) : (E.all xs).take (k * E.size) = E.all (xs.take k) := by
  induction xs generalizing k with
  | nil => simp [El.all]
  | cons x xs ih =>
    cases k with
    | zero => simp [El.all]
    | succ k =>
      rw [El.all_cons, List.take_succ_cons, El.all_cons, List.take_append, E.len]
      have h1 : (k + 1) * E.size = k * E.size + E.size := by rw [Nat.add_mul]; omega
      rw [h1, show k * E.size + E.size - E.size = k * E.size by omega, ih, List.take_of_length_le (by rw [E.len]; omega)]
theorem El.all_drop (xs : List α) (k : Nat) : (E.all xs).drop (k * E.size) = E.all (xs.drop k) := by
  induction xs generalizing k with
  | nil => simp [El.all]
  | cons x xs ih =>
    cases k with
    | zero => simp [El.all]
    | succ k =>
      rw [El.all_cons, List.drop_succ_cons, List.drop_append, E.len]
      have h1 : (k + 1) * E.size = k * E.size + E.size := by rw [Nat.add_mul]; omega
      rw [h1, show k * E.size + E.size - E.size = k * E.size by omega, ih, List.drop_of_length_le (by rw [E.len]; omega), List.nil_append]
theorem El.all_replicate (n : Nat) : E.all (List.replicate n E.zero) = (List.replicate n (E.enc E.zero)).flatten := by
  simp [El.all, List.flatMap, List.map_replicate]
def Rd (w : World) (B : Nat) (A : Option Addr) (xs : List α) : Prop :=
  xs = [] ∨ ∃ g o, A = some ⟨g, o, none⟩ ∧ g < B ∧ ∀ j u, (E.all xs)[j]? = some u → w.cell? ⟨g, o + j, none⟩ = some u
def Own (w : World) (base : Nat) (v : Value) (xs sp : List α) : Prop :=
  (v = .slice none 0 0 ∧ xs = [] ∧ sp = []) ∨
  ∃ g, base ≤ g ∧ v = .slice (some ⟨g, 0, none⟩) xs.length (xs.length + sp.length) ∧ Blk w g E.ty (E.all (xs ++ sp)).toArray ∧ xs.length + sp.length ≤ maxLen
end el
theorem below_putAt {B : Nat} {a w : World} (h : Below B a w) {b i : Nat} (hp : B ≤ b) (u : Value) : Below B a (w.setCell ⟨b, i, none⟩ u) := h.setCell (p := ⟨b, i, none⟩) hp u
theorem below_drewN {B : Nat} {a w : World} (h : Below B a w) (n : Nat) : Below B a (w.drewN n) := ⟨h.os, h.tape, h.output, h.size, h.block⟩
section rd
variable {α : Type} {E : El α} {w w' : World} {B B' : Nat} {A : Option Addr} {xs sp : List α} {base : Nat} {v : Value}
theorem Rd.nil (w : World) (B : Nat) (A : Option Addr) : Rd E w B A [] := .inl rfl
theorem Rd.keep (h : Rd E w B A xs) (hk : ∀ k, k < B → w'.heap[k]? = w.heap[k]?) : Rd E w' B A xs := by
  rcases h with h | ⟨g, o, hA, hg, hc⟩
  · exact .inl h
  exact .inr ⟨g, o, hA, hg, fun j u hu => (World.cell?_of_block (a := ⟨g, o + j, none⟩) (hk g hg)).trans (hc j u hu)⟩
theorem Rd.below (h : Rd E w B A xs) (hb : Below B w w') : Rd E w' B A xs := h.keep hb.block
theorem Rd.more (h : Rd E w B A xs) (hB : B ≤ B') : Rd E w B' A xs := by
  rcases h with h | ⟨g, o, hA, hg, hc⟩
  · exact .inl h
  exact .inr ⟨g, o, hA, by omega, hc⟩
theorem Rd.drew (h : Rd E w B A xs) : Rd E w.drew B A xs := h
theorem Rd.alloc (h : Rd E w B A xs) (hB : B ≤ w.heap.size) (o : Obj) : Rd E (w.alloc o) B A xs := h.keep fun k hk => Below.heap_alloc w o k (by omega)
theorem Rd.put (h : Rd E w B A xs) {p : Addr} (hp : B ≤ p.block) (u : Value) : Rd E (w.setCell p u) B A xs := h.keep fun k hk => heap_setCell_other w p k u (by omega)
theorem Rd.row (h : Rd E w B A xs) {g : Nat} (hp : B ≤ g) (cs : Array Value) : Rd E (w.setRow g cs) B A xs := h.keep fun k hk => setRow_other w g k cs (by omega)
theorem Rd.cut (h : Rd E w B A xs) {k cap : Nat} (hc : xs.length ≤ cap) :
    Rd E w B (if cap = k then A else A.map (·.add (k * E.size))) (xs.drop k) := by
  rcases h with h | ⟨g, o, rfl, hg, hc'⟩
  · subst h; exact .inl (by simp)
  by_cases hk : cap = k
  · exact .inl (List.drop_of_length_le (by omega))
  rw [if_neg hk]
  refine .inr ⟨g, o + k * E.size, ?_, hg, fun j u hu => ?_⟩
  · simp only [Option.map_some, Addr.add]; split <;> simp_all
  rw [← E.all_drop, List.getElem?_drop] at hu
  rw [Nat.add_assoc]; exact hc' _ u hu
theorem Rd.take (h : Rd E w B A xs) (k : Nat) : Rd E w B A (xs.take k) := by
  rcases h with h | ⟨g, o, rfl, hg, hc'⟩
  · subst h; exact .inl (by simp)
  refine .inr ⟨g, o, rfl, hg, fun j u hu => ?_⟩
  rw [← E.all_take, List.getElem?_take] at hu
  split at hu
  · exact hc' _ u hu
  cases hu
theorem Rd.at_ (h : Rd E w B A xs) {k : Nat} (hk : k < xs.length) : ∃ g o, A = some ⟨g, o, none⟩ ∧ g < B ∧ ∀ j u, (E.enc xs[k])[j]? = some u → w.cell? ⟨g, o + k * E.size + j, none⟩ = some u := by
  rcases h with h | ⟨g, o, rfl, hg, hc⟩
  · subst h; simp at hk
  refine ⟨g, o, rfl, hg, fun j u hu => ?_⟩
  rw [Nat.add_assoc]
  refine hc _ u ?_
  have hj : j < E.size := by rw [← E.len xs[k]]; exact (List.getElem?_eq_some_iff.1 hu).1
  have h1 := E.all_drop xs k
  rw [List.drop_eq_getElem_cons hk, E.all_cons] at h1
  have h2 : ((E.all xs).drop (k * E.size))[j]? = some u := by rw [h1, List.getElem?_append_left (by rw [E.len]; exact hj)]; exact hu
  rwa [List.getElem?_drop] at h2
theorem Own.nil (w : World) (base : Nat) : Own E w base (.slice none 0 0) [] [] := .inl ⟨rfl, rfl, rfl⟩
theorem Own.keep (h : Own E w base v xs sp) (hk : ∀ g, v.ownBlock = some g → w'.heap[g]? = w.heap[g]?) : Own E w' base v xs sp := by
  rcases h with h | ⟨g, hb, rfl, hblk, hm⟩
  · exact .inl h
  exact .inr ⟨g, hb, rfl, (hk g rfl).trans hblk, hm⟩
theorem Own.lt (h : Own E w base v xs sp) {g : Nat} (hg : v.ownBlock = some g) : base ≤ g ∧ g < w.heap.size := by
  rcases h with ⟨rfl, _⟩ | ⟨g', hb, rfl, hblk, hm⟩
  · simp [Value.ownBlock] at hg
  simp [Value.ownBlock] at hg; subst hg; exact ⟨hb, hblk.lt⟩
theorem Own.below {C : Nat} (h : Own E w base v xs sp) (hb : Below C w w') (hC : ∀ g, v.ownBlock = some g → g < C) : Own E w' base v xs sp := h.keep fun g hg => hb.block g (hC g hg)
theorem Own.belowSize (h : Own E w base v xs sp) (hb : Below w.heap.size w w') : Own E w' base v xs sp := h.below hb fun _ hg => (h.lt hg).2
theorem Own.drew (h : Own E w base v xs sp) : Own E w.drew base v xs sp := h
theorem Own.alloc (h : Own E w base v xs sp) (o : Obj) : Own E (w.alloc o) base v xs sp := h.keep fun g hg => Below.heap_alloc w o g (h.lt hg).2
theorem Own.put (h : Own E w base v xs sp) {p : Addr} (hp : v.ownBlock ≠ some p.block) (u : Value) : Own E (w.setCell p u) base v xs sp := h.keep fun g hg => heap_setCell_other w p g u (fun e => hp (by rw [hg, e]))
theorem Own.row (h : Own E w base v xs sp) {k : Nat} (hp : v.ownBlock ≠ some k) (cs : Array Value) : Own E (w.setRow k cs) base v xs sp := h.keep fun g hg => setRow_other w k g cs (fun e => hp (by rw [hg, e]))
theorem Own.form (h : Own E w base v xs sp) : ∃ A, v = .slice A xs.length (xs.length + sp.length) ∧ xs.length + sp.length ≤ maxLen := by
  rcases h with ⟨rfl, rfl, rfl⟩ | ⟨g, hb', rfl, hblk, hm⟩
  · exact ⟨none, rfl, by simp [maxLen]⟩
  exact ⟨_, rfl, hm⟩
theorem Own.shape (h : Own E w base v xs sp) {n : Nat} (hn : xs.length = n) : ∃ A c, v = .slice A n c ∧ n ≤ c ∧ c ≤ maxLen := by
  subst hn; obtain ⟨A, rfl, hm⟩ := h.form; exact ⟨A, _, rfl, by omega, hm⟩
theorem Own.shapePos (h : Own E w base v xs sp) {n : Nat} (hn : xs.length = n) (h0 : 0 < n) : ∃ g c, v = .slice (some ⟨g, 0, none⟩) n c ∧ n ≤ c ∧ c ≤ maxLen ∧ base ≤ g ∧ g < w.heap.size := by
  subst hn
  rcases h with ⟨_, rfl, _⟩ | ⟨g, hb', rfl, hblk, hm⟩
  · simp at h0
  exact ⟨g, _, rfl, by omega, hm, hb', hblk.lt⟩
theorem Blk.own {g : Nat} {t : TypeId} {cs : Array Value} (h : Blk w g t cs) (hg : w.grownBy w' v.ownBlock) (ho : Own E w base v xs sp) (hlt : g < base) : Blk w' g t cs :=
  h.grown hg fun e => by have := (ho.lt e.symm).1; omega
theorem Own.rd {A : Option Addr} {n c : Nat} (h : Own E w base (.slice A n c) xs sp) : Rd E w w.heap.size A xs := by
  rcases h with ⟨_, rfl, _⟩ | ⟨g, hb', hv, hblk, hm⟩
  · exact .inl rfl
  injection hv with hA; subst hA
  refine .inr ⟨g, 0, rfl, hblk.lt, fun j u hu => ?_⟩
  rw [hblk.cell, Nat.zero_add, E.all_append]
  have hj := (List.getElem?_eq_some_iff.1 hu).1
  simp only [List.getElem?_toArray]
  rw [List.getElem?_append_left hj]; exact hu
end rd
def slen : Value → Nat | .slice _ n _ => n | _ => 0
theorem zeroCells_flatten (z : Array Value) (n : Nat) : (Builtin.zeroCells z n).toList = (List.replicate n z.toList).flatten := by
  unfold Builtin.zeroCells
  rw [Array.toList_map, Array.toList_range]
  induction n with
  | zero => simp
  | succ n ih =>
    rw [Nat.add_mul, Nat.one_mul, List.range_add, List.map_append, ih, List.replicate_succ', List.flatten_append]
    congr 1
    apply List.ext_getElem
    · simp
    intro i h1 h2
    simp only [List.map_map, List.getElem_map, List.getElem_range, Function.comp, List.flatten_cons, List.flatten_nil, List.append_nil, Array.getElem_toList]
    have hi : i < z.size := by simpa using h1
    have : (n * z.size + i) % z.size = i := by rw [Nat.mul_comm, Nat.mul_add_mod]; exact Nat.mod_eq_of_lt hi
    rw [this]
    simp [hi]
section append
variable {α : Type} {E : El α} {P : Program} {w : World} {base : Nat} {v : Value} {xs sp ys : List α}
theorem run_append (hE : E.fits P) (t ty : TypeId) (ht : P.underlying t = some (.slice E.ty)) (hown : Own E w base v xs sp)
    {B : Nat} {A : Option Addr} {m : Nat} (c : Nat) (hr : Rd E w B A ys) (hm : ys.length = m)
    (h63 : xs.length + m ≤ maxLen) (hbytes : (xs.length + m) * E.bytes ≤ 140737488355328) (hbase : base ≤ w.heap.size) :
    ∃ v' w' sp', (Builtin.append_ #[t, t] ty #[v, .slice A m c]).run P w = .ok v' w' ∧ Own E w' base v' (xs ++ ys) sp' ∧ w.grownBy w' v.ownBlock ∧
      (v'.ownBlock = v.ownBlock ∨ v'.ownBlock = some w.heap.size) ∧ (∀ k, sp = List.replicate k E.zero → ∃ k', sp' = List.replicate k' E.zero) ∧ (v'.ownBlock = v.ownBlock ∨ w.grownBy w' none) := by
  subst hm
  unfold El.fits at hE
  cases hi : P.info? E.ty with
  | none => rw [hi] at hE; cases hE
  | some i =>
  rw [hi] at hE
  simp only [Option.map_some, Option.some.injEq, Prod.mk.injEq] at hE
  obtain ⟨hz0, hsize, hby⟩ := hE
  cases hz : i.zero with
  | none => rw [hz] at hz0; cases hz0
  | some z =>
  rw [hz] at hz0
  simp only [Option.map_some, Option.some.injEq] at hz0
  have hzs : z.cells.size = i.size := by rw [hsize, ← E.len E.zero, ← hz0]; simp
  have hlen : (E.all ys).length = ys.length * i.size := by rw [E.all_length, hsize]
  have hsmall : ((xs.length + ys.length : Nat) : Int) ≤ 9223372036854775807 := by simp only [maxLen] at h63; omega
  have grown : ∀ (old : Nat), old < xs.length + ys.length → ∀ row : Option Nat,
      Own E (w.drew.alloc (.cells ((E.all xs).toArray ++ (E.all ys).toArray ++ Builtin.zeroCells z.cells (grownCap w (xs.length + ys.length) old E.ty - (xs.length + ys.length))) E.ty)) base
        (.slice (some ⟨w.heap.size, 0, none⟩) (xs.length + ys.length) (grownCap w (xs.length + ys.length) old E.ty)) (xs ++ ys) (List.replicate (grownCap w (xs.length + ys.length) old E.ty - (xs.length + ys.length)) E.zero) ∧
      w.grownBy (w.drew.alloc (.cells ((E.all xs).toArray ++ (E.all ys).toArray ++ Builtin.zeroCells z.cells (grownCap w (xs.length + ys.length) old E.ty - (xs.length + ys.length))) E.ty)) row := by
    intro old ho row
    have hge := grownCap_ge w (xs.length + ys.length) old E.ty
    have hcm := grownCap_le_maxLen w (xs.length + ys.length) old E.ty h63
    refine ⟨.inr ⟨w.heap.size, hbase, ?_, ?_, ?_⟩, ⟨rfl, rfl, rfl, by simp, fun k hk _ => Below.heap_alloc w.drew _ k hk⟩⟩
    · rw [List.length_append, List.length_replicate, show xs.length + ys.length + (grownCap w (xs.length + ys.length) old E.ty - (xs.length + ys.length)) = grownCap w (xs.length + ys.length) old E.ty by omega]
    · have hb := Blk.new w.drew E.ty ((E.all xs).toArray ++ (E.all ys).toArray ++ Builtin.zeroCells z.cells (grownCap w (xs.length + ys.length) old E.ty - (xs.length + ys.length)))
      have he : (E.all xs).toArray ++ (E.all ys).toArray ++ Builtin.zeroCells z.cells (grownCap w (xs.length + ys.length) old E.ty - (xs.length + ys.length)) =
          (E.all (xs ++ ys ++ List.replicate (grownCap w (xs.length + ys.length) old E.ty - (xs.length + ys.length)) E.zero)).toArray := by
        apply Array.toList_inj.1
        simp only [Array.toList_append, E.all_append, E.all_replicate, zeroCells_flatten, hz0]
      rw [← he]; exact hb
    rw [List.length_append, List.length_replicate]; omega
  by_cases hys : ys = []
  · -- nothing is appended
    subst hys
    have hrun : (Builtin.append_ #[t, t] ty #[v, .slice A 0 c]).run P w = .ok v w := by
      rcases hown with ⟨rfl, rfl, rfl⟩ | ⟨g, hb', rfl, hblk, hmx⟩
      · cases A <;> simp [Builtin.append_, run_underlying ht, sizeOf, typeInfo, hi, Builtin.lenOf, Builtin.firstCells, loadCells, loadCellsFrom]
      · cases A <;> simp [Builtin.append_, run_underlying ht, sizeOf, typeInfo, hi, Builtin.lenOf, Builtin.firstCells, loadCells, loadCellsFrom, storeCells]
    exact ⟨v, w, sp, by simpa using hrun, by simpa using hown, ⟨rfl, rfl, rfl, Nat.le_refl _, fun _ _ _ => rfl⟩, .inl rfl, fun k hk => ⟨k, hk⟩, .inl rfl⟩
  have hpos : 0 < ys.length := List.length_pos_iff.2 hys
  rcases hr with hr | ⟨g2, o2, rfl, hg2, hc2⟩
  · exact absurd hr hys
  have hnews : ∀ j u, (E.all ys)[j]? = some u → w.cell? ((⟨g2, o2, none⟩ : Addr).add j) = some u := by
    intro j u hu
    have : (⟨g2, o2, none⟩ : Addr).add j = ⟨g2, o2 + j, none⟩ := by unfold Addr.add; split <;> simp_all
    rw [this]; exact hc2 j u hu
  rcases hown with ⟨rfl, rfl, rfl⟩ | ⟨g, hb', rfl, hblk, hmx⟩
  · have hr := run_append_nil (P := P) w t ty E.ty i z ht hi hz ⟨g2, o2, none⟩ ys.length c (E.all ys) hlen hnews hpos (by simpa using hsmall) (by rw [hby]; simp only [List.length_nil, Nat.zero_add] at hbytes; omega)
    have hgr := grown 0 (by simp; omega) (Value.ownBlock (.slice none 0 0))
    have hgn := (grown 0 (by simp; omega) none).2
    simp only [List.length_nil, Nat.zero_add, List.nil_append, El.all_nil, Array.empty_append] at hgr hgn ⊢
    exact ⟨_, _, _, hr, hgr.1, hgr.2, .inr rfl, fun _ _ => ⟨_, rfl⟩, .inr hgn⟩
  by_cases hroom : xs.length + ys.length ≤ xs.length + sp.length
  · have hfit : xs.length * i.size + (E.all ys).length ≤ (E.all (xs ++ sp)).toArray.size := by
      simp only [List.size_toArray, E.all_length, List.length_append, hsize, Nat.add_mul]
      have := Nat.mul_le_mul_right E.size (show ys.length ≤ sp.length by omega)
      omega
    have hr := run_append_room (P := P) w t ty E.ty i ht hi g xs.length (xs.length + sp.length) _ hblk ⟨g2, o2, none⟩ ys.length c (E.all ys) hlen hnews (E.all_one ys) hroom hfit
    have hrow : ((E.all (xs ++ sp)).toArray.toList.take (xs.length * i.size) ++ E.all ys ++ (E.all (xs ++ sp)).toArray.toList.drop (xs.length * i.size + (E.all ys).length)) = E.all (xs ++ ys ++ sp.drop ys.length) := by
      simp only [hsize, E.all_length, ← Nat.add_mul]
      rw [E.all_take, E.all_drop, E.all_append, E.all_append]
      congr 2
      · simp
      rw [List.drop_append]; simp
    rw [hrow] at hr
    refine ⟨_, _, sp.drop ys.length, hr, .inr ⟨g, hb', ?_, hblk.row _, ?_⟩, ⟨rfl, rfl, rfl, by simp, fun k _ hk => setRow_other w g k _ (fun e => hk (by simp [Value.ownBlock, e]))⟩, .inl rfl, fun k hk => ⟨k - ys.length, by rw [hk, List.drop_replicate]⟩, .inl rfl⟩
    · rw [List.length_append, List.length_drop, show xs.length + ys.length + (sp.length - ys.length) = xs.length + sp.length by omega]
    rw [List.length_append, List.length_drop]; omega
  have holds : ∀ j u, (E.all xs)[j]? = some u → w.cell? ((⟨g, 0, none⟩ : Addr).add j) = some u := by
    intro j u hu
    have : (⟨g, 0, none⟩ : Addr).add j = ⟨g, j, none⟩ := by unfold Addr.add; split <;> simp_all
    rw [this, hblk.cell, E.all_append]
    simp only [List.getElem?_toArray]
    rw [List.getElem?_append_left (List.getElem?_eq_some_iff.1 hu).1]; exact hu
  have hr := run_append_grow (P := P) w t ty E.ty i z ht hi hz ⟨g, 0, none⟩ xs.length (xs.length + sp.length) (E.all xs) (by rw [E.all_length, hsize]) holds ⟨g2, o2, none⟩ ys.length c (E.all ys) hlen hnews
    (by omega) hsmall (growslice_fits (by omega) (by rw [hby]; exact hbytes))
  have hgn := (grown (xs.length + sp.length) (by omega) none).2
  have hgr := grown (xs.length + sp.length) (by omega) (Value.ownBlock (.slice (some ⟨g, 0, none⟩) xs.length (xs.length + sp.length)))
  exact ⟨_, _, _, hr, hgr.1, hgr.2, .inr rfl, fun _ _ => ⟨_, rfl⟩, .inr hgn⟩
theorem wp_app {o : Oper} {a : Act} {K : Act → World → Prop} {Q : Exit → Act → World → Prop} (hE : E.fits P) (s x : Operand) (t : TypeId)
    (ho : o.op = .call { callee := .builtin .append, args := #[s, x], argTypes := #[t, t] }) (ht : P.underlying t = some (.slice E.ty))
    (hs : a.eval s = v) (hown : Own E w base v xs sp) {B : Nat} {A : Option Addr} {m c : Nat} (hx : a.eval x = .slice A m c) (hr : Rd E w B A ys) (hm : ys.length = m)
    (h63 : xs.length + m ≤ maxLen) (hbytes : (xs.length + m) * E.bytes ≤ 140737488355328) (hbase : base ≤ w.heap.size)
    (h : ∀ v' w' sp', Own E w' base v' (xs ++ ys) sp' → w.grownBy w' v.ownBlock → (v'.ownBlock = v.ownBlock ∨ v'.ownBlock = some w.heap.size) → K (a.put o.dst v') w') : o.wp P a w K Q := by
  obtain ⟨v', w', sp', hrun, h2, h3, h4, _, _⟩ := run_append hE t o.type ht hown c hr hm h63 hbytes hbase
  unfold Oper.wp execOp
  simp only [ho, resolve, invoke, builtin, Sem.run_bind, Sem.run_pure, Result.andThen_ok, List.map_toArray, List.map_cons, List.map_nil, hs, hx, hrun]
  exact h v' w' sp' h2 h3 h4
theorem wpList_app {ops : Array Oper} {rest : List Oper} {o : Oper} {a : Act} {Q : Exit → Act → World → Prop} (hgd : o.guard = none) (hE : E.fits P) (s x : Operand) (t : TypeId)
    (ho : o.op = .call { callee := .builtin .append, args := #[s, x], argTypes := #[t, t] }) (ht : P.underlying t = some (.slice E.ty))
    (hs : a.eval s = v) (hown : Own E w base v xs sp) {B : Nat} {A : Option Addr} {m c : Nat} (hx : a.eval x = .slice A m c) (hr : Rd E w B A ys) (hm : ys.length = m)
    (h63 : xs.length + m ≤ maxLen) (hbytes : (xs.length + m) * E.bytes ≤ 140737488355328) (hbase : base ≤ w.heap.size)
    (h : ∀ v' w' sp', Own E w' base v' (xs ++ ys) sp' → w.grownBy w' v.ownBlock → (v'.ownBlock = v.ownBlock ∨ v'.ownBlock = some w.heap.size) → wpList P ops Q rest (a.put o.dst v') w') : wpList P ops Q (o :: rest) a w :=
  wpList_plain hgd fun _ hK => wp_app hE s x t ho ht hs hown hx hr hm h63 hbytes hbase fun v' w' sp' h2 h3 h4 => hK _ _ (h v' w' sp' h2 h3 h4)
end append
section
variable {P : Program}
theorem addr_add (g o j : Nat) : (⟨g, o, none⟩ : Addr).add j = ⟨g, o + j, none⟩ := by unfold Addr.add; split <;> simp_all
def aggB (d : Option TypeDesc) : Bool := match d with | some (.struct _) | some (.array _ _) => true | _ => false
theorem run_ld {w : World} {g : Nat} {t : TypeId} {cs : Array Value} (hb : Blk w g t cs) {pre mid post : List Value} (hcs : cs.toList = pre ++ mid ++ post) (ty : TypeId)
    (hd : aggB (P.underlying ty) = true) (hi : (P.info? ty).map (·.size) = some mid.length) :
    (loadVar ty ⟨g, pre.length, none⟩).run P w = .ok (.agg mid.toArray) w := by
  have hl : (loadCells ⟨g, pre.length, none⟩ mid.length).run P w = .ok mid.toArray w :=
    run_loadCells_list (P := P) w ⟨g, pre.length, none⟩ mid (fun j v hv => by
      rw [addr_add, hb.cell, ← Array.getElem?_toList, hcs, List.append_assoc, List.getElem?_append_right (by omega)]
      rw [show pre.length + j - pre.length = j by omega, List.getElem?_append_left (List.getElem?_eq_some_iff.1 hv).1]
      exact hv)
  cases hq : P.info? ty with
  | none => simp [hq] at hi
  | some i =>
    have hs : i.size = mid.length := by simpa [hq] using hi
    cases hu : P.underlying ty with
    | none => rw [hu] at hd; cases hd
    | some d =>
      rw [hu] at hd
      have hagg : (isAgg ty).run P w = .ok true w := by
        unfold isAgg
        rw [Sem.run_bind, run_underlying hu w]
        cases d <;> simp_all [aggB]
      simp [loadVar, Sem.run_bind, hagg, sizeOf, typeInfo, hq, hs, hl]
theorem wp_ld {o : Oper} {a : Act} {w : World} {K : Act → World → Prop} {Q : Exit → Act → World → Prop} (ty : TypeId) (x : Operand) (ho : o.op = .load ty x)
    {g : Nat} {t : TypeId} {cs : Array Value} (hb : Blk w g t cs) {pre mid post : List Value} (hcs : cs.toList = pre ++ mid ++ post) {off : Nat} (hoff : pre.length = off) (hx : a.eval x = .pointer (some ⟨g, off, none⟩))
    (hd : aggB (P.underlying ty) = true) (hi : (P.info? ty).map (·.size) = some mid.length) (h : K (a.put o.dst (.agg mid.toArray)) w) : o.wp P a w K Q := by
  subst hoff
  unfold Oper.wp execOp
  simp only [ho, hx, Instr.loadAt, Instr.sureAddr, Sem.run_bind, Sem.run_pure, Result.andThen_ok, run_ld hb hcs ty hd hi]
  exact h
theorem wpList_ld {ops : Array Oper} {rest : List Oper} {o : Oper} {a : Act} {w : World} {Q : Exit → Act → World → Prop} (hgd : o.guard = none) (ty : TypeId) (x : Operand) (ho : o.op = .load ty x)
    {g : Nat} {t : TypeId} {cs : Array Value} (hb : Blk w g t cs) {pre mid post : List Value} (hcs : cs.toList = pre ++ mid ++ post) {off : Nat} (hoff : pre.length = off) (hx : a.eval x = .pointer (some ⟨g, off, none⟩))
    (hd : aggB (P.underlying ty) = true) (hi : (P.info? ty).map (·.size) = some mid.length) (h : wpList P ops Q rest (a.put o.dst (.agg mid.toArray)) w) : wpList P ops Q (o :: rest) a w :=
  wpList_plain hgd fun _ hK => wp_ld ty x ho hb hcs hoff hx hd hi (hK _ _ h)
theorem run_st {w : World} {g : Nat} {t : TypeId} {cs : Array Value} (hb : Blk w g t cs) {pre mid post news : List Value} (hcs : cs.toList = pre ++ mid ++ post) (ty : TypeId)
    (hi : (P.info? ty).map (·.size) = some news.length) (hl : news.length = mid.length) (h1 : ∀ v ∈ news, v.oneCell' = true) :
    (storeVar ty ⟨g, pre.length, none⟩ (.agg news.toArray)).run P w = .ok () (w.setRow g (pre ++ news ++ post).toArray) := by
  have hsz : cs.size = (pre ++ mid ++ post).length := by rw [← hcs]; simp
  have hst := run_storeCells_at P g pre.length t news 0 cs w hb (by simp only [List.length_append] at hsz; omega) h1
  have hrow : (cs.toList.take (pre.length + 0) ++ news ++ cs.toList.drop (pre.length + 0 + news.length)) = pre ++ news ++ post := by
    rw [hcs, hl, Nat.add_zero, List.append_assoc pre mid post, List.take_left, ← List.append_assoc, ← List.length_append, List.drop_left]
  rw [hrow] at hst
  cases hq : P.info? ty with
  | none => simp [hq] at hi
  | some i =>
    have hs : news.length = i.size := by simp [hq] at hi; omega
    simp [storeVar, sizeOf, typeInfo, hq, Value.cells, hs, hst]
theorem wp_st {o : Oper} {a : Act} {w : World} {K : Act → World → Prop} {Q : Exit → Act → World → Prop} (ty : TypeId) (x y : Operand) (ho : o.op = .store ty x y)
    {g : Nat} {t : TypeId} {cs : Array Value} (hb : Blk w g t cs) {pre mid post news : List Value} (hcs : cs.toList = pre ++ mid ++ post) {off : Nat} (hoff : pre.length = off) (hx : a.eval x = .pointer (some ⟨g, off, none⟩))
    (hy : a.eval y = .agg news.toArray) (hi : (P.info? ty).map (·.size) = some news.length) (hl : news.length = mid.length) (h1 : ∀ v ∈ news, v.oneCell' = true)
    (h : K (a.put o.dst undef) (w.setRow g (pre ++ news ++ post).toArray)) : o.wp P a w K Q := by
  subst hoff
  unfold Oper.wp execOp
  simp only [ho, hx, hy, Instr.storeAt, Instr.sureAddr, Sem.run_bind, Sem.run_pure, Result.andThen_ok, run_st hb hcs ty hi hl h1]
  exact h
theorem wpList_st {ops : Array Oper} {rest : List Oper} {o : Oper} {a : Act} {w : World} {Q : Exit → Act → World → Prop} (hgd : o.guard = none) (ty : TypeId) (x y : Operand) (ho : o.op = .store ty x y)
    {g : Nat} {t : TypeId} {cs : Array Value} (hb : Blk w g t cs) {pre mid post news : List Value} (hcs : cs.toList = pre ++ mid ++ post) {off : Nat} (hoff : pre.length = off) (hx : a.eval x = .pointer (some ⟨g, off, none⟩))
    (hy : a.eval y = .agg news.toArray) (hi : (P.info? ty).map (·.size) = some news.length) (hl : news.length = mid.length) (h1 : ∀ v ∈ news, v.oneCell' = true)
    (h : wpList P ops Q rest (a.put o.dst undef) (w.setRow g (pre ++ news ++ post).toArray)) : wpList P ops Q (o :: rest) a w :=
  wpList_plain hgd fun _ hK => wp_st ty x y ho hb hcs hoff hx hy hi hl h1 (hK _ _ h)
theorem wpList_run {ops : Array Oper} {rest : List Oper} {o : Oper} {a : Act} {w : World} {Q : Exit → Act → World → Prop} (hgd : o.guard = none) (v : Value)
    (hr : (execOp a.eval o).run P w = .ok (.value v) w) (h : wpList P ops Q rest (a.put o.dst v) w) : wpList P ops Q (o :: rest) a w :=
  wpList_plain hgd fun _ hK => by unfold Oper.wp; rw [hr]; exact hK _ _ h
theorem wpList_build {ops : Array Oper} {rest : List Oper} {o : Oper} {a : Act} {w : World} {Q : Exit → Act → World → Prop} (hgd : o.guard = none) (ty : TypeId) (ps : Array (Nat × Operand)) (_ho : o.op = .build ty ps) (v : Value)
    (hr : ∀ w, (execOp a.eval o).run P w = .ok (.value v) w) (h : wpList P ops Q rest (a.put o.dst v) w) : wpList P ops Q (o :: rest) a w :=
  wpList_run hgd v (hr w) h
theorem wpList_forget {ops : Array Oper} {rest : List Oper} {a : Act} {w : World} {Q : Exit → Act → World → Prop} (F : World → Prop) (hF : F w) (h : ∀ w, F w → wpList P ops Q rest a w) : wpList P ops Q rest a w := h w hF
theorem wpList_ldAll {ops : Array Oper} {rest : List Oper} {o : Oper} {a : Act} {w : World} {Q : Exit → Act → World → Prop} (hgd : o.guard = none) (ty : TypeId) (x : Operand) (ho : o.op = .load ty x)
    {g : Nat} {t : TypeId} {mid : List Value} (hb : Blk w g t mid.toArray) (hx : a.eval x = .pointer (some ⟨g, 0, none⟩))
    (hd : aggB (P.underlying ty) = true) (hi : (P.info? ty).map (·.size) = some mid.length) (h : wpList P ops Q rest (a.put o.dst (.agg mid.toArray)) w) : wpList P ops Q (o :: rest) a w :=
  wpList_ld hgd ty x ho hb (pre := []) (mid := mid) (post := []) (by simp) rfl hx hd hi h
theorem wp_stAll {o : Oper} {a : Act} {w : World} {K : Act → World → Prop} {Q : Exit → Act → World → Prop} (ty : TypeId) (x y : Operand) (ho : o.op = .store ty x y)
    {g : Nat} {t : TypeId} {cs : Array Value} {news : List Value} (hb : Blk w g t cs) (hx : a.eval x = .pointer (some ⟨g, 0, none⟩)) (hy : a.eval y = .agg news.toArray)
    (hi : (P.info? ty).map (·.size) = some news.length) (hl : cs.size = news.length) (h1 : ∀ v ∈ news, v.oneCell' = true)
    (h : K (a.put o.dst undef) (w.setRow g news.toArray)) : o.wp P a w K Q :=
  wp_st ty x y ho hb (pre := []) (mid := cs.toList) (post := []) (by simp) rfl hx hy hi (by simpa using hl.symm) h1 (by simpa using h)
theorem wpList_stAll {ops : Array Oper} {rest : List Oper} {o : Oper} {a : Act} {w : World} {Q : Exit → Act → World → Prop} (hgd : o.guard = none) (ty : TypeId) (x y : Operand) (ho : o.op = .store ty x y)
    {g : Nat} {t : TypeId} {cs : Array Value} {news : List Value} (hb : Blk w g t cs) (hx : a.eval x = .pointer (some ⟨g, 0, none⟩)) (hy : a.eval y = .agg news.toArray)
    (hi : (P.info? ty).map (·.size) = some news.length) (hl : cs.size = news.length) (h1 : ∀ v ∈ news, v.oneCell' = true)
    (h : wpList P ops Q rest (a.put o.dst undef) (w.setRow g news.toArray)) : wpList P ops Q (o :: rest) a w :=
  wpList_st hgd ty x y ho hb (pre := []) (mid := cs.toList) (post := []) (by simp) rfl hx hy hi (by simpa using hl.symm) h1 (by simpa using h)
theorem wpT_ld {ops : Array Oper} {Q : Exit → Act → World → Prop} {S : World → Prop} {L A : List Nat} {o : Oper} {l : List Oper} {k : Nat} {a : Act} {w : World} (hw : Region.wanted o (yielded ops a.tmps) = true) (hl : L.contains k = false) (ty : TypeId) (x : Operand) (ho : o.op = .load ty x)
    {g : Nat} {t : TypeId} {cs : Array Value} {pre mid post : List Value} (hcs : cs.toList = pre ++ mid ++ post) {off : Nat} (hoff : pre.length = off) (hb : Blk w g t cs) (hS : A.contains k = true → ∀ w', S w' → Blk w' g t cs) (hx : a.eval x = .pointer (some ⟨g, off, none⟩))
    (hd : aggB (P.underlying ty) = true) (hi : (P.info? ty).map (·.size) = some mid.length) (h : wpT P ops Q S L A l (k + 1) (a.put o.dst (.agg mid.toArray)) w) : wpT P ops Q S L A (o :: l) k a w := by
  subst hoff
  have hr : ∀ w', Blk w' g t cs → Vr P o a w' (.agg mid.toArray) := by
    intro w' hb'
    unfold Vr execOp
    simp only [ho, hx, Instr.loadAt, Instr.sureAddr, Sem.run_bind, Sem.run_pure, Result.andThen_ok, run_ld hb' hcs ty hd hi]
  unfold wpT
  rw [if_pos hw, if_neg (by rw [hl]; exact Bool.false_ne_true)]
  exact ⟨_, (hr w hb).qr, fun hA w' hw' => hr w' (hS hA w' hw'), h⟩
theorem wpT_ldAll {ops : Array Oper} {Q : Exit → Act → World → Prop} {S : World → Prop} {L A : List Nat} {o : Oper} {l : List Oper} {k : Nat} {a : Act} {w : World} (hw : Region.wanted o (yielded ops a.tmps) = true) (hl : L.contains k = false) (ha : A.contains k = false) (ty : TypeId) (x : Operand) (ho : o.op = .load ty x)
    {g : Nat} {t : TypeId} {mid : List Value} (hb : Blk w g t mid.toArray) (hx : a.eval x = .pointer (some ⟨g, 0, none⟩))
    (hd : aggB (P.underlying ty) = true) (hi : (P.info? ty).map (·.size) = some mid.length) (h : wpT P ops Q S L A l (k + 1) (a.put o.dst (.agg mid.toArray)) w) : wpT P ops Q S L A (o :: l) k a w :=
  wpT_ld hw hl ty x ho (pre := []) (mid := mid) (post := []) (by simp) rfl hb (fun hA => by rw [ha] at hA; cases hA) hx hd hi h
theorem results_ldAll {fn : Func} {p : Tmp} {ty : TypeId} (hr : fn.results = #[.cell p ty]) (tmps : Array Value) {w : World} {g : Nat} {t : TypeId} {mid : List Value} (hb : Blk w g t mid.toArray)
    (hp : tmps.getD p undef = .pointer (some ⟨g, 0, none⟩)) (hd : aggB (P.underlying ty) = true) (hi : (P.info? ty).map (·.size) = some mid.length) :
    (results fn tmps).run P w = .ok (.agg mid.toArray) w := by
  have hp' : tmps[p]?.getD undef = .pointer (some ⟨g, 0, none⟩) := by simpa using hp
  have := run_ld (P := P) hb (pre := []) (mid := mid) (post := []) (by simp) ty hd hi
  simp only [List.length_nil] at this
  simp [results, hr, hp', asAddr, this]
theorem one_map {α : Type} (f : α → Value) (l : List α) (h : ∀ x, (f x).oneCell' = true) : ∀ v ∈ l.map f, v.oneCell' = true := by
  intro v hv; obtain ⟨x, _, rfl⟩ := List.mem_map.1 hv; exact h x
theorem Below.row {B : Nat} {a w : World} (h : Below B a w) {g : Nat} (hg : B ≤ g) (cs : Array Value) : Below B a (w.setRow g cs) := below_setRow h hg cs
end
abbrev B8 (b : UInt8) : Value := .int .u8 (b.toNat : Int)
def byteE : El UInt8 where
  ty := 5
  size := 1
  bytes := 1
  enc b := [B8 b]
  zero := 0
  pos := by decide
  len _ := rfl
  one x u hu := by simp at hu; subst hu; rfl
theorem byteE_fits : byteE.fits Tryz.prog := by unfold El.fits; kernel_rfl
theorem byteE_all (l : List UInt8) : byteE.all l = l.map B8 := by
  induction l with
  | nil => rfl
  | cons x xs ih => rw [El.all_cons, ih]; rfl
theorem rd_byte {w : World} {B : Nat} {A : Option Addr} {l : List UInt8} (h : Rd byteE w B A l) {k : Nat} (hk : k < l.length) :
    ∃ g o, A = some ⟨g, o, none⟩ ∧ g < B ∧ ∀ i, (hi : i < l.length) → w.cell? ⟨g, o + i, none⟩ = some (B8 l[i]) := by
  rcases h with h | ⟨g, o, rfl, hg, hc⟩
  · subst h; simp at hk
  refine ⟨g, o, rfl, hg, fun i hi => hc i _ ?_⟩
  rw [byteE_all]; simp [hi]
theorem rd_new (w : World) (l : List UInt8) : Rd byteE (w.alloc (.cells (l.map B8).toArray 5)) (w.heap.size + 1) (some ⟨w.heap.size, 0, none⟩) l :=
  .inr ⟨w.heap.size, 0, rfl, Nat.lt_succ_self _, fun j u hu => by rw [(Blk.new _ _ _).cell, Nat.zero_add]; rw [byteE_all] at hu; simpa using hu⟩
theorem rd_one (w : World) {v : Value} {x : UInt8} (hv : v = B8 x) : Rd byteE (w.alloc (.cells #[v] 5)) (w.heap.size + 1) (some ⟨w.heap.size, 0, none⟩) [x] := by
  subst hv; exact rd_new w [x]
theorem B8_ofNat (n : Nat) : B8 (UInt8.ofNat n) = .int .u8 ((n % 256 : Nat) : Int) := by
  simp [UInt8.toNat_ofNat']
theorem own_new (w : World) (base : Nat) (hb : base ≤ w.heap.size) : Own byteE (w.alloc (.cells #[] 5)) base (.slice (some ⟨w.heap.size, 0, none⟩) 0 0) [] [] :=
  .inr ⟨w.heap.size, hb, rfl, Blk.new _ _ _, by simp⟩
theorem below_own {B : Nat} {a w w' : World} {v : Value} {base : Nat} {α : Type} {E : El α} {xs sp : List α} (h : Below B a w) (hg : w.grownBy w' v.ownBlock) (ho : Own E w base v xs sp) (hB : B ≤ base) (hs : B ≤ w.heap.size) : Below B a w' :=
  h.grown hg hs fun k hk => by have := (ho.lt hk).1; omega
def strOf (l : List UInt8) : ByteArray := ⟨l.toArray⟩
theorem strOf_list (l : List UInt8) : (strOf l).toList = l := ByteArray.toList_mk l
theorem run_str {w : World} {B : Nat} {A : Option Addr} {l : List UInt8} (h : Rd byteE w B A l) (m c : Nat) (hm : l.length = m) :
    (convert 48 9 (.slice A m c)).run Tryz.prog w = .ok (.string (strOf l)) w := by
  subst hm
  cases A with
  | none =>
    rcases h with h | ⟨g, o, hA, _⟩
    · subst h; exact run_convert_bytes_nil w _ _ Tryz.underlying48 Tryz.underlying5 _ _ _ Tryz.underlying9
    cases hA
  | some a =>
    refine run_convert_bytes_back w _ _ _ a c l Tryz.underlying48 Tryz.underlying5 Tryz.underlying9 fun j hj => ?_
    rcases h with h | ⟨g, o, hA, hg, hc⟩
    · subst h; simp at hj
    injection hA with hA; subst hA
    rw [addr_add]
    refine hc j _ ?_
    rw [byteE_all]; simp [hj]
def over (b : UInt8) : UInt8 := b ^^^ 0x5A
theorem over_num (b : UInt8) : bits .xor .u8 (b.toNat : Int) (90 : Int) = ((over b).toNat : Int) := by
  have := u8_xor_nat b.toNat 90 b.toNat_lt (by decide)
  unfold over; rw [UInt8.toNat_xor]; exact this
attribute [local go_sem] over_num
set_option maxRecDepth 100000 in
abbrev byteT (t : TypeId) : El UInt8 := { byteE with ty := t }
theorem drL : type_of% (And.intro @List.drop_succ_cons.{0} <| And.intro @List.drop_zero.{0} @List.drop_nil.{0}) := And.intro @List.drop_succ_cons.{0} <| And.intro @List.drop_zero.{0} @List.drop_nil.{0}
end Go.Proofs.YtgffimanhmpohaaGreat
