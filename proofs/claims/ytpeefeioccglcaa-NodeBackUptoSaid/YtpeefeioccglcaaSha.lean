/- SHA-256 in plain Lean: words, the schedule, the block step, the digest of a list of bytes. -/
namespace Go.Proofs.Ytpeefeioccglcaa

structure S8 where
  a : BitVec 32
  b : BitVec 32
  c : BitVec 32
  d : BitVec 32
  e : BitVec 32
  f : BitVec 32
  g : BitVec 32
  h : BitVec 32

def ror (x : BitVec 32) (k : Nat) : BitVec 32 := x <<< (32 - k) ||| x >>> k

def kList : List (BitVec 32) := [0x428a2f98#32, 0x71374491#32, 0xb5c0fbcf#32, 0xe9b5dba5#32, 0x3956c25b#32, 0x59f111f1#32, 0x923f82a4#32, 0xab1c5ed5#32,
  0xd807aa98#32, 0x12835b01#32, 0x243185be#32, 0x550c7dc3#32, 0x72be5d74#32, 0x80deb1fe#32, 0x9bdc06a7#32, 0xc19bf174#32,
  0xe49b69c1#32, 0xefbe4786#32, 0x0fc19dc6#32, 0x240ca1cc#32, 0x2de92c6f#32, 0x4a7484aa#32, 0x5cb0a9dc#32, 0x76f988da#32,
  0x983e5152#32, 0xa831c66d#32, 0xb00327c8#32, 0xbf597fc7#32, 0xc6e00bf3#32, 0xd5a79147#32, 0x06ca6351#32, 0x14292967#32,
  0x27b70a85#32, 0x2e1b2138#32, 0x4d2c6dfc#32, 0x53380d13#32, 0x650a7354#32, 0x766a0abb#32, 0x81c2c92e#32, 0x92722c85#32,
  0xa2bfe8a1#32, 0xa81a664b#32, 0xc24b8b70#32, 0xc76c51a3#32, 0xd192e819#32, 0xd6990624#32, 0xf40e3585#32, 0x106aa070#32,
  0x19a4c116#32, 0x1e376c08#32, 0x2748774c#32, 0x34b0bcb5#32, 0x391c0cb3#32, 0x4ed8aa4a#32, 0x5b9cca4f#32, 0x682e6ff3#32,
  0x748f82ee#32, 0x78a5636f#32, 0x84c87814#32, 0x8cc70208#32, 0x90befffa#32, 0xa4506ceb#32, 0xbef9a3f7#32, 0xc67178f2#32]

def h0 : S8 := ⟨0x6a09e667#32, 0xbb67ae85#32, 0x3c6ef372#32, 0xa54ff53a#32, 0x510e527f#32, 0x9b05688c#32, 0x1f83d9ab#32, 0x5be0cd19#32⟩

/-- The word of four bytes, the highest first. -/
def word4 (a b c d : UInt8) : BitVec 32 := BitVec.ofNat 32 (a.toNat * 16777216 + b.toNat * 65536 + c.toNat * 256 + d.toNat)
def wordAt (l : List UInt8) (i : Nat) : BitVec 32 := word4 (l.getD (4 * i) 0) (l.getD (4 * i + 1) 0) (l.getD (4 * i + 2) 0) (l.getD (4 * i + 3) 0)
def words (l : List UInt8) (n : Nat) : List (BitVec 32) := (List.range n).map (wordAt l)
theorem words_length (l : List UInt8) (n : Nat) : (words l n).length = n := by simp [words]
theorem words_succ (l : List UInt8) (n : Nat) : words l (n + 1) = words l n ++ [wordAt l n] := by simp [words, List.range_succ]

def sg0 (x : BitVec 32) : BitVec 32 := ror x 7 ^^^ ror x 18 ^^^ x >>> 3
def sg1 (x : BitVec 32) : BitVec 32 := ror x 17 ^^^ ror x 19 ^^^ x >>> 10
def nextWord (s : List (BitVec 32)) : BitVec 32 :=
  sg1 (s.getD (s.length - 2) 0) + s.getD (s.length - 7) 0 + sg0 (s.getD (s.length - 15) 0) + s.getD (s.length - 16) 0
def sched (m : List (BitVec 32)) : Nat → List (BitVec 32)
  | 0 => m
  | n + 1 => sched m n ++ [nextWord (sched m n)]
theorem sched_length (m : List (BitVec 32)) (n : Nat) : (sched m n).length = m.length + n := by
  induction n with
  | zero => rfl
  | succ n ih => simp [sched, ih]; omega

def rnd (k w : BitVec 32) (s : S8) : S8 :=
  let one := s.h + (ror s.e 6 ^^^ ror s.e 11 ^^^ ror s.e 25) + (s.e &&& s.f ^^^ ~~~s.e &&& s.g) + k + w
  let two := (ror s.a 2 ^^^ ror s.a 13 ^^^ ror s.a 22) + (s.a &&& s.b ^^^ s.a &&& s.c ^^^ s.b &&& s.c)
  ⟨one + two, s.a, s.b, s.c, s.d + one, s.e, s.f, s.g⟩
def rnds (ws : List (BitVec 32)) (s : S8) : Nat → S8
  | 0 => s
  | n + 1 => rnd (kList.getD n 0) (ws.getD n 0) (rnds ws s n)
def addS (x y : S8) : S8 := ⟨x.a + y.a, x.b + y.b, x.c + y.c, x.d + y.d, x.e + y.e, x.f + y.f, x.g + y.g, x.h + y.h⟩
/-- The block step. -/
def step (s : S8) (l : List UInt8) : S8 := addS s (rnds (sched (words l 16) 48) s 64)

/-- Whole blocks, one by one. -/
def steps (s : S8) : Nat → List UInt8 → S8
  | 0, _ => s
  | n + 1, l => steps (step s (l.take 64)) n (l.drop 64)

/-- a number of n bytes, the highest first -/
def be (v : Nat) : Nat → List UInt8
  | 0 => []
  | n + 1 => UInt8.ofNat (v / 256 ^ n) :: be v n
def be4 (x : BitVec 32) : List UInt8 := [UInt8.ofNat (x.toNat / 16777216), UInt8.ofNat (x.toNat / 65536), UInt8.ofNat (x.toNat / 256), UInt8.ofNat x.toNat]
def out (s : S8) : List UInt8 := be4 s.a ++ be4 s.b ++ be4 s.c ++ be4 s.d ++ be4 s.e ++ be4 s.f ++ be4 s.g ++ be4 s.h
theorem out_length (s : S8) : (out s).length = 32 := rfl

/-- How many noughts stand behind the byte 128. -/
def padN (n : Nat) : Nat := (119 - n % 64) % 64
def pad (l : List UInt8) : List UInt8 := l ++ [128] ++ List.replicate (padN l.length) 0 ++ be (l.length * 8) 8
/-- SHA-256. -/
def sum (l : List UInt8) : List UInt8 := out (steps h0 ((pad l).length / 64) (pad l))
theorem sum_length (l : List UInt8) : (sum l).length = 32 := rfl

theorem take_getD {α : Type} (l : List α) (k i : Nat) (d : α) (h : i < k) : (l.take k).getD i d = l.getD i d := by
  simp [List.getD, h]
theorem wordAt_congr (l l' : List UInt8) (i : Nat) (h : ∀ j, j < 4 * i + 4 → l.getD j 0 = l'.getD j 0) : wordAt l i = wordAt l' i := by
  unfold wordAt; rw [h _ (by omega), h _ (by omega), h _ (by omega), h _ (by omega)]

theorem steps_add (s : S8) (m n : Nat) (l : List UInt8) : steps s (m + n) l = steps (steps s m l) n (l.drop (64 * m)) := by
  induction m generalizing s l with
  | zero => simp [steps]
  | succ m ih => rw [show m + 1 + n = (m + n) + 1 by omega, steps, ih, steps, List.drop_drop]; congr 2; omega
theorem steps_take (s : S8) (n k : Nat) (l : List UInt8) (h : 64 * n ≤ k) : steps s n (l.take k) = steps s n l := by
  induction n generalizing s l k with
  | zero => rfl
  | succ n ih =>
    rw [steps, steps, List.take_take, Nat.min_eq_left (by omega), List.drop_take]
    rw [ih _ (k - 64) _ (by omega)]
theorem steps_append (s : S8) (n : Nat) (l r : List UInt8) (h : 64 * n ≤ l.length) : steps s n (l ++ r) = steps s n l := by
  rw [← steps_take s n l.length (l ++ r) h, List.take_left]
theorem words_zero (l : List UInt8) : words l 0 = [] := rfl
theorem wordAt_def (l : List UInt8) (i : Nat) : wordAt l i = word4 (l.getD (4 * i) 0) (l.getD (4 * i + 1) 0) (l.getD (4 * i + 2) 0) (l.getD (4 * i + 3) 0) := rfl
theorem kList_length : kList.length = 64 := rfl
theorem sched_zero (m : List (BitVec 32)) : sched m 0 = m := rfl
theorem sched_succ (m : List (BitVec 32)) (n : Nat) : sched m (n + 1) = sched m n ++ [nextWord (sched m n)] := rfl
theorem rnds_zero (ws : List (BitVec 32)) (s : S8) : rnds ws s 0 = s := rfl
theorem rnds_succ (ws : List (BitVec 32)) (s : S8) (n : Nat) : rnds ws s (n + 1) = rnd (kList.getD n 0) (ws.getD n 0) (rnds ws s n) := rfl
theorem step_def (s : S8) (l : List UInt8) : step s l = addS s (rnds (sched (words l 16) 48) s 64) := rfl
theorem steps_zero (s : S8) (l : List UInt8) : steps s 0 l = s := rfl
theorem steps_succ (s : S8) (n : Nat) (l : List UInt8) : steps s (n + 1) l = steps (step s (l.take 64)) n (l.drop 64) := rfl
theorem pad_length (l : List UInt8) : (pad l).length % 64 = 0 := by
  have hb : (be (l.length * 8) 8).length = 8 := by simp [be]
  simp only [pad, List.length_append, List.length_replicate, List.length_cons, List.length_nil, hb, padN]
  omega
theorem steps_next (s : S8) (q : Nat) (l : List UInt8) : steps s (q + 1) l = step (steps s q l) ((l.drop (64 * q)).take 64) := by
  rw [steps_add, steps_succ, steps_zero]
theorem sum_def (l : List UInt8) : sum l = out (steps h0 ((pad l).length / 64) (pad l)) := rfl
theorem pad_def (l : List UInt8) : pad l = l ++ [128] ++ List.replicate (padN l.length) 0 ++ be (l.length * 8) 8 := rfl
theorem be_length (v n : Nat) : (be v n).length = n := by induction n with | zero => rfl | succ n ih => simp [be, ih]
theorem pad_size (l : List UInt8) : (pad l).length = l.length + 9 + padN l.length := by
  rw [pad_def]; simp only [List.length_append, List.length_replicate, be_length, List.length_cons, List.length_nil]; omega
def S8.l (s : S8) : List (BitVec 32) := [s.a, s.b, s.c, s.d, s.e, s.f, s.g, s.h]
/-- The first k words are added. -/
def mix (s r : S8) (k : Nat) : List (BitVec 32) := (List.range 8).map fun j => if j < k then s.l.getD j 0 + r.l.getD j 0 else s.l.getD j 0
theorem mix_zero (s r : S8) : mix s r 0 = s.l := rfl
theorem mix_eight (s r : S8) : mix s r 8 = (addS s r).l := rfl
theorem mix_length (s r : S8) (k : Nat) : (mix s r k).length = 8 := by simp [mix]
theorem mix_at (s r : S8) (k : Nat) (h : k < 8) : (mix s r k)[k]? = some (s.l.getD k 0) := by
  simp [mix, h]
theorem mix_set (s r : S8) (k : Nat) (_h : k < 8) : (mix s r k).set k (s.l.getD k 0 + r.l.getD k 0) = mix s r (k + 1) := by
  apply List.ext_getElem
  · simp [mix]
  · intro i h1 h2
    have hi : i < 8 := by simpa [mix] using h2
    rw [List.getElem_set]
    by_cases hk : k = i
    · subst hk; simp [mix]
    · simp only [if_neg hk, mix, List.getElem_map, List.getElem_range]
      by_cases hlt : i < k
      · rw [if_pos hlt, if_pos (by omega)]
      · rw [if_neg hlt, if_neg (by omega)]
theorem out_at (s : S8) (q r : Nat) (hq : q < 8) (hr : r < 4) : (out s)[4 * q + r]? = some (UInt8.ofNat ((s.l.getD q 0).toNat / 256 ^ (3 - r))) := by
  rcases (by omega : q = 0 ∨ q = 1 ∨ q = 2 ∨ q = 3 ∨ q = 4 ∨ q = 5 ∨ q = 6 ∨ q = 7) with rfl | rfl | rfl | rfl | rfl | rfl | rfl | rfl <;>
  rcases (by omega : r = 0 ∨ r = 1 ∨ r = 2 ∨ r = 3) with rfl | rfl | rfl | rfl <;> simp [out, be4, S8.l]
/-- A word, byte by byte. -/
def part (l : List UInt8) (k : Nat) : Nat → BitVec 32
  | 0 => 0
  | i + 1 => part l k i <<< 8 + BitVec.ofNat 32 (l.getD (4 * k + i) 0).toNat
theorem part_zero (l : List UInt8) (k : Nat) : part l k 0 = 0 := rfl
theorem part_succ (l : List UInt8) (k i : Nat) : part l k (i + 1) = part l k i <<< 8 + BitVec.ofNat 32 (l.getD (4 * k + i) 0).toNat := rfl
theorem part_four (l : List UInt8) (k : Nat) : part l k 4 = wordAt l k := by
  have h0 := (l.getD (4 * k + 0) 0).toNat_lt
  have h1 := (l.getD (4 * k + 1) 0).toNat_lt
  have h2 := (l.getD (4 * k + 2) 0).toNat_lt
  have h3 := (l.getD (4 * k + 3) 0).toNat_lt
  rw [part_succ, part_succ, part_succ, part_succ, part_zero, wordAt_def, word4]
  apply BitVec.eq_of_toNat_eq
  simp only [BitVec.toNat_add, BitVec.toNat_shiftLeft, Nat.shiftLeft_eq, BitVec.toNat_ofNat]
  rw [Nat.add_zero] at *
  have hz : (0 : BitVec 32).toNat = 0 := rfl
  rw [hz]
  omega
attribute [irreducible] part
attribute [irreducible] sched rnds step steps words pad sum kList nextWord wordAt
end Go.Proofs.Ytpeefeioccglcaa
